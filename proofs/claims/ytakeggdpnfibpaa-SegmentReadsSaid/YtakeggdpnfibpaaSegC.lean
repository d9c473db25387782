/- Contracts and words that the laws stand on (SegC). -/
import Derived.Test.YtakeggdpnfibpaaSegB
import Derived.Test.YtakeggdpnfibpaaBase
set_option linter.unusedVariables false
set_option linter.unusedSimpArgs false
namespace Go.Proofs.Ytakeggdpnfibpaa
section
open Go Go.RowKit Go.Proofs
open Go.Shelf in
attribute [local go_sem] Oper.semAt_some
attribute [local irreducible] Calls

theorem GOwn.away {K : Nat → Prop} {lo hi : Nat} {u : Value} {l : Grp} {W : World} (h : GOwn lo hi u l W) (hK : ∀ k, K k → k < lo) : Away K (GOwn lo hi u l) W := by
  obtain ⟨ys, e, a, b, c⟩ := h
  intro V hs
  exact ⟨ys, e, Away.row a (fun k hk h => by have := (a.lt k hk).1; have := hK k h; omega) V hs, b, fun y hy => ⟨Away.row (c y hy).1 (fun k hk h => by have := ((c y hy).1.lt k hk).1; have := hK k h; omega) V hs, (c y hy).2⟩⟩
theorem GsOwn.away {K : Nat → Prop} {lo hi : Nat} {l : List GIt} {W : World} (h : GsOwn lo hi l W) (hK : ∀ k, K k → k < lo) : Away K (GsOwn lo hi l) W := by
  induction l generalizing lo with
  | nil => exact fun V hs => h
  | cons x l ih =>
    obtain ⟨m, a, b, c⟩ := h
    exact fun V hs => ⟨m, a.away hK V hs, b, ih c (fun k hk => Nat.lt_of_lt_of_le (hK k hk) b) V hs⟩
theorem GsOwn.more {lo hi hi' : Nat} {l : List GIt} {V : World} (h : GsOwn lo hi l V) (h1 : hi ≤ hi') : GsOwn lo hi' l V := by
  induction l generalizing lo with
  | nil => exact Nat.le_trans h h1
  | cons x l ih => obtain ⟨m, a, b, c⟩ := h; exact ⟨m, a, b, ih c⟩
theorem Sk.none {k0 w W : World} {L : List Res} {Fs : List (World → Prop)} (h : Sk k0 w W L Fs) : Sk k0 w W [] [] :=
  ⟨⟨h.st.below, (fun _ h => by cases h), (fun i j r s h => by simp at h), (fun _ h => by cases h)⟩, h.oth⟩
theorem St.dropL {w W : World} {L : List Res} {Fs : List (World → Prop)} : ∀ (M : List Res), St w W (M ++ L) Fs → St w W L Fs
  | [], h => h
  | _ :: M, h => St.dropL M (h.sub 0)
theorem iregion_join3 {α β γ : Type} {P : Program} {F : Fence} {n : Nat} {c : Code} {Q : Exit → Act → World → Prop} {a : Act} {w : World} {S : α → β → γ → World → Prop} {mk : α → β → γ → Act} (hreg : c.wpIn F n P (fun e a' w' => e = .normal ∧ ∃ b d x, a' = mk b d x ∧ S b d x w') a w) (hK : ∀ b d x V, S b d x V → Q .normal (mk b d x) V) : c.wpIn F n P Q a w :=
  wpIn_mono hreg (fun e a' w' h => by obtain ⟨rfl, b, d, x, rfl, hS⟩ := h; exact hK b d x _ hS)
section
variable {F : Fence} {n : Nat} {P : Program}
theorem wpIn_range_H1 {α : Type} {g : Operand} {ps : Array Tmp} {assign body : Code} {Q : Exit → Act → World → Prop} {a : Act} {w : World}
    (hro : F.round = none) (h1 : 1 ≤ n) {gf : Nat} {lb : Array Value} (hg : a.eval g = .func (.func gf) #[] lb) (hFg : F.fn gf) (eg : ∀ args w, (callFunc gf args).run P w = .ok (.enter gf args) w)
    {encs : α → Array Value} {Kp : World → World → Prop} {Kc : Nat × Nat → World → World → Prop} {T : TypeId} {R : α → World → World → Prop} {E : List α → Prop} {Nx : List α → α → Prop} {w0 : World} (hseq : SeqH F (n - 1) P gf lb encs Kp Kc T R E Nx w0) (hk0 : Kp w0 w) (hKa : ∀ (W : World) (o : Obj), w.heap.size ≤ W.heap.size → Kp W (W.alloc o))
    (hKt : ∀ {A B C : World}, Kp A B → Kp B C → Kp A C) (hKct : ∀ {c A B C}, Kc c A B → Kc c B C → Kc c A C) (hKcb : ∀ (c : Nat × Nat) (W : World) (o' : Obj), w.heap.size + 2 ≤ c.1 → w.heap.size + 2 ≤ c.2 → Kc c W (W.putObj (w.heap.size + 1) o')) (hb0 : Below w0.heap.size w0 w) (hps : ∀ x, (encs x).size = ps.size)
    (I0 : World → Prop) (hI0 : OwnFrom w.heap.size (fun (_ : Unit) W => I0 W)) (h0 : I0 w) (I : Nat × Nat → List α → World → Prop) (Ix : Code → Nat × Nat → List α → World → Prop) (hI : ∀ q, OwnFrom w.heap.size (I q)) (hIx : ∀ c q, OwnFrom w.heap.size (Ix c q)) (hIb : BearsH T I) (hIxb : ∀ c, BearsH T (Ix c)) (hI1 : ∀ q W W1, I0 W → w.heap.size + 2 ≤ W.heap.size → InitH T q W W1 → I q [] W1)
    (a₁ : α → Act) (Ay : Nat × Nat → List α → α → World → Prop) (hAy : ∀ q pre x, OwnFrom w.heap.size (fun (_ : Unit) W => Ay q pre x W))
    (hassign : ∀ (l : Nat) (q : Nat × Nat) (pre : List α) (x : α) (W0 W : World) (K : Act → World → Prop), I q pre W0 → TurnsH T q W0 W → R x W0 W → Nx pre x → (∀ W', KeepsFrom w.heap.size W W' → Kc q W W' → I q pre W' → Ay q pre x W' → K (a₁ x) W') →
      assign.wpIn (F.inRound l) (n - 1 - 1) P (Exit.then K (fun _ _ _ => False)) { tmps := (ps.zip (encs x)).foldl (fun t (p, v) => t.setIfInBounds p v) a.tmps, defers := [] } W)
    (hbody : ∀ (l : Nat) (q : Nat × Nat) (pre : List α) (x : α) (W : World), w.heap.size + 2 ≤ q.1 → w.heap.size + 2 ≤ q.2 → Ay q pre x W → Nx pre x → body.wpIn (F.inRound l) (n - 1 - 1) P (fun e _ W' => KeepsFrom w.heap.size W W' ∧ Kc q W W' ∧
      match e with
      | .normal => I q (pre ++ [x]) W'
      | .ret => Ix .ret q (pre ++ [x]) W'
      | .exit id => Ix (.exit id) q (pre ++ [x]) W'
      | .goto t => Ix (.goto t) q (pre ++ [x]) W'
      | .panic _ => False
      | .outgrown => False) (a₁ x) W)
    (hdone : ∀ (D : Nat) (q : Nat × Nat) (xs : List α) (W : World), w.heap.size ≤ D → E xs → I q xs W → W.heap[D]? = some (.deferred (some [])) → Q .normal { a with defers := { target := .collected D, args := #[] } :: a.defers } W)
    (hstop : ∀ (D : Nat) (c : Code) (q : Nat × Nat) (pre : List α) (W : World), w.heap.size ≤ D → Ix c q pre W → W.heap[D]? = some (.deferred (some [])) → c.wpIn F n P Q { a with defers := { target := .collected D, args := #[] } :: a.defers } W) :
    (Code.rangeFunc g ps assign body).wpIn F n P Q a w :=
  wpIn_range_H hro h1 hg hFg eg hseq hk0 hKa (fun h k => hKt h k) (fun h k => hKct h k) hKcb hb0 hps I0 hI0 h0 I Ix hI hIx hIb hIxb hI1
    (fun q pre x a' W => a' = a₁ x ∧ Ay q pre x W) (fun q pre x a' s A B row hs hg hr => ⟨hs.1, hAy q pre x s A B row hs.2 hg hr⟩)
    (fun l q pre x W0 W K _ _ hi hT hR hn hK => hassign l q pre x W0 W K hi hT hR hn (fun W' kf kp hi' hy => hK _ W' kf kp hi' ⟨rfl, hy⟩))
    (fun l q pre x a' W h1 h2 _ ⟨e, hy⟩ hn => by subst e; exact hbody l q pre x W h1 h2 hy hn) hdone hstop
end
theorem keep3 {w W W' : World} {L L' : List Res} {Fs Gs : List (World → Prop)} {a b c : Nat} {la lb lc : List Value} {ta tb tc : TypeId} (h : St w W L Fs) (h' : St w W' L' Gs) {i j k i' j' k' : Nat} (hi : L[i]? = some (Blk a la ta)) (hi' : L'[i']? = some (Blk a la ta)) (hj : L[j]? = some (Blk b lb tb)) (hj' : L'[j']? = some (Blk b lb tb)) (hk : L[k]? = some (Blk c lc tc)) (hk' : L'[k']? = some (Blk c lc tc)) : Keeps (fun k => k = a ∨ k = b ∨ k = c ∨ k < w.heap.size) W W' := by
  rintro q (rfl | rfl | rfl | hq)
  · rw [h.blk hi, h'.blk hi']
  · rw [h.blk hj, h'.blk hj']
  · rw [h.blk hk, h'.blk hk']
  · rw [h.below.block q hq, h'.below.block q hq]
theorem z22 : zeroIs Try.prog 22 (.slice none 0 0) := by unfold zeroIs; kernel_rfl
set_option maxHeartbeats 2000000 in
set_option maxRecDepth 100000 in
theorem read11 (v : Value) (xs : List UInt8) (num : Nat) (w : World) (h : HB w v xs) (hn : num < 18446744073709551616) (hl : xs.length ≤ 1000000) :
    Calls Try.prog 11 #[v, .int .u64 (num : Int)] w fun e w' => ∃ (pr : List GIt) (u : Value) (m : Nat), ReadP xs num (strip pr) m ∧ e = .returned (.tuple #[u, .int .i64 (m : Int)]) ∧ Below w.heap.size w w' ∧ w'.ownsRow w.heap.size 37 1 u pr.length (itCells pr) ∧ GsOwn w.heap.size w'.heap.size pr w' := by
  have Hv := Lib.hid h
  obtain ⟨Av, cv, rfl, hlc⟩ := h.shape
  have HS := Lib.hid ((St.start w).addF h.away0)
  clear h
  refine (callsIn_wide (n := 3)).1 ?_
  refine callsIn_of_wp_marks Try.func11 rfl trivial ?_ rfl
  simp only [Try.ntmps11, List.size_toArray, List.length_cons, List.length_nil, Nat.reduceAdd, Nat.reduceSub, Array.replicate_succ, Array.replicate_zero, List.push_toArray, List.append_toArray, List.nil_append, List.cons_append]
  refine wpIn_wide.2 ?_
  go_wp2_with (first
    | (refine atd 2 (by rfl) ?_; refine wl (by rfl) (s_bx (l := [.slice Av xs.length cv]) HS.out (by rfl) (by rfl) ?_); intro b2 Wn hS; clear HS; have HS := Lib.hid hS; clear hS)
    | (refine atd 3 (by rfl) ?_; refine wl (by rfl) (s_bx (l := [.int .u64 (num : Int)]) HS.out (by rfl) (by rfl) ?_); intro b3 Wn hS; clear HS; have HS := Lib.hid hS; clear hS)
    | (refine atd 4 (by rfl) ?_; refine wl (by rfl) (s_al HS.out (by rfl) z22 (by rfl) ?_); intro b4 Wn hS; clear HS; have HS := Lib.hid hS; clear hS)
    | (refine atd 5 (by rfl) ?_; refine wl (by rfl) (s_al HS.out (by rfl) z3c (by rfl) ?_); intro b5 Wn hS; clear HS; have HS := Lib.hid hS; clear hS)
    | (refine atd 11 (by rfl) ?_; refine wl (by rfl) (s_ld HS.out 3 (by rfl) (by rfl) (by rfl) (by kernel_rfl) (by rfl) ?_))
    | (go_at_call 20; refine (ended20 (.slice Av xs.length cv) rfl _).mono ?_; rintro e Wn ⟨bb, rfl, hb⟩; have hS := HS.out.join hb; clear hb; clear HS; have HS := Lib.hid hS; clear hS))
  have hv0 : HB Wn (.slice Av xs.length cv) xs := HS.out.fact (i := 0) rfl
  have hbb : Wn.heap[bb]? = some (.cells #[.slice Av xs.length cv] 28 (0, 0)) := HS.out.blk (i := 0) rfl
  have hvm : xs ≠ [] → ∀ k, (Value.slice Av xs.length cv).ownBlock = some k → k < w.heap.size := fun e k hk => by obtain ⟨q, h1, h2⟩ := Hv.out.lt e; rw [h1] at hk; injection hk with hk; omega
  have hmb : w.heap.size ≤ bb := ((HS.out.own _ (List.mem_of_getElem? (i := 0) rfl)).2 bb (by simp [Blk])).1
  have hltb : bb < Wn.heap.size := blk_lt hbb
  have hbz := HS.out.below.size
  have hS0 := (HS.out.new (Below.refl _ _) (r := Row (.slice none 0 0) 37 1 0 []) (World.ownsRow_nil _ _ _ _) (fun k hk => by simp [Row, Value.ownBlock] at hk)).addF (F := GsOwn w.heap.size w.heap.size []) (fun _ _ => Nat.le_refl _)
  refine (wpIn_wide (n := 3)).1 ?_
  refine wpIn_range_H1 (n := 3) rfl (by omega) (gf := 31) (lb := #[.pointer (some ⟨bb, 0, none⟩)]) rfl trivial (enters_of Try.func31 (by kernel_rfl) rfl)
    (ended1_in 2 w.heap.size bb (by omega) (.slice Av xs.length cv) xs Wn hbb hv0 hvm hmb hl) (Keeps.refl _ _) ?hKa Keeps.trans Keeps.trans ?hKcb (Below.refl _ _) (fun _ => rfl)
    (fun W => St w W [Row (.slice none 0 0) 37 1 0 [], Blk bb [.slice Av xs.length cv] 28, Blk b5 [.int .i64 0] 3, Blk b4 [.slice none 0 0] 22, Blk b3 [.int .u64 (num : Int)] 26, Blk b2 [.slice Av xs.length cv] 28] [GsOwn w.heap.size w.heap.size [], fun V => HB V (.slice Av xs.length cv) xs]) ?hI0 hS0
    (RdI w bb b2 b3 b4 b5 (.slice Av xs.length cv) xs num) (fun c' q _ W => c' = .exit 0 ∧ RdX w bb b2 b3 b4 b5 (.slice Av xs.length cv) xs num q W) ?hI ?hIx ?hIb ?hIxb ?hI1
    ?a1 (RdA w bb b2 b3 b4 b5 (.slice Av xs.length cv) xs num) ?hAy ?assign ?body ?done ?stop
  case hKa =>
    rintro W o hW k hk
    exact Below.heap_alloc _ _ _ (by rcases hk with rfl | hk <;> omega)
  case hKcb =>
    rintro c W o' h1 h2 k hk
    refine World.putObj_heap_other ?_
    rcases hk with rfl | rfl | rfl | hk <;> omega
  case hI0 => exact fun _ X Y row hs hg hr => hs.book hg (fun r e => ⟨Nat.le_trans hbz (hr r e).1, (hr r e).2⟩)
  case hI => exact fun q => RdI.own hbz q
  case hIx => exact fun _ q s X Y row hs hg hr => ⟨hs.1, RdX.own hbz q s X Y row hs.2 hg hr⟩
  case hIb => exact RdI.bear
  case hIxb => exact fun _ q s X Y hs ht => ⟨hs.1, hs.2.bear ht⟩
  case hI1 => exact fun q X Y hs _ hi => ⟨⟨0, .slice none 0 0, none, 0, w.heap.size, Nat.le_trans hbz (Nat.le_trans (by omega) hi.below.size), hs.initH hi⟩, RdTo.nil (by omega), by simpa using hn, by simp [endI]⟩
  case hAy => exact fun q pre x => RdA.own hbz q pre x
  case assign =>
    rintro l q pre x W0 W K hI hT hR hn hK
    have ha := RdA.of hI hT hR
    have hi := RdI.bear q pre W0 W hI hT
    dsimp only [encI]
    gi_wp2_with fail
    exact hK _ (KeepsFrom.refl _ _) (Keeps.refl _ _) hi ha
  case body =>
    rintro lc q pre x W hq1 hq2 ⟨i, u, A, c, hi, B, T, z1, z2, z3, hs, hrd, hlt, hcnt⟩ hx
    obtain ⟨q1, q2⟩ := q
    obtain ⟨aq, l, Ax, cx⟩ := x
    dsimp only at *
    obtain ⟨h0, h13, hqx, hl0, hln⟩ := hx.in
    obtain ⟨m, hm⟩ : ∃ m, l.length = m + 1 := ⟨l.length - 1, by omega⟩
    have hdl : l.dropLast = l.take m := by rw [List.dropLast_eq_take, hm, Nat.add_sub_cancel]
    obtain ⟨e0, he0⟩ := Int.eq_ofNat_of_zero_le h0
    obtain ⟨a0, rfl⟩ := Int.eq_ofNat_of_zero_le (show 0 ≤ aq by omega)
    simp only [RdL] at hs
    rw [he0, hm] at hs
    have hcap : m + 1 ≤ cx := RS.cap (hs.fact (i := 0) rfl).rs
    have HCAP := Lib.hid hcap; have HDL := Lib.hid hdl; have HE0 := Lib.hid he0; have HM := Lib.hid hm; have HX := Lib.hid hx; have HRD := Lib.hid hrd; have HS0 := Lib.hid hs
    have HNUM := Lib.hid hlt; have HCNT := Lib.hid hcnt
    have hm9 : m ≤ 90000 := by omega
    have HE1 := Lib.hid (show e0 + 13 ≤ a0 ∧ a0 ≤ xs.length ∧ m ≤ 90000 by omega)
    clear HS
    have HS := Lib.hid hs.sk
    rw [hm]
    clear hcap hdl he0 hm hx hrd hlt hcnt hs h0 h13 hqx hl0 hln
    have hseg : ∀ V, GOwn B T (.slice Ax (m + 1) cx) l V → Calls Try.prog 13 #[.int .u64 ((num + pre.length : Nat) : Int), .slice Ax m cx] V fun e w' => ∃ v', e = .returned (.tuple #[v', .int .i64 (segE (num + pre.length) (l.take m))]) ∧ New V w' (Row v' 5 1 (segO (num + pre.length) (l.take m)).length (bs (segO (num + pre.length) (l.take m)))) := fun V hV => by
      have hl' : l.length = m + 1 := HM.out
      exact seg13 _ _ _ V HNUM.out (hV.rs.take m (by omega)) (by have := HE1.out.2.2; rw [List.length_take]; omega)
    have HSEG := Lib.hid hseg
    clear hseg
    have h21 : Fence.wide.fn 21 := trivial
    have hpl : pre.length ≤ 90000 := by have := HCNT.out; have := HE0.out; have := HE1.out; omega
    have HFIN := Lib.hid (show ∀ V (L : List Res) (Fs : List (World → Prop)), Sk W w V (L ++ [Blk q1 [.int .i64 i] 3, Blk q2 [u] 37, Row (.slice A pre.length c) 37 1 pre.length (itCells pre), Blk bb [.slice Av xs.length cv] 28, Blk b5 [.int .i64 (e0 : Int)] 3, Blk b4 [.slice A pre.length c] 22, Blk b3 [.int .u64 ((num + pre.length : Nat) : Int)] 26, Blk b2 [.slice Av xs.length cv] 28]) (Fs ++ [GsOwn w.heap.size hi pre, fun V => HB V (.slice Av xs.length cv) xs]) → (segOk (num + pre.length) (l.take m) = false ∨ encL (segL (num + pre.length) (l.take m)) ≠ encL l) → RdX w bb b2 b3 b4 b5 (.slice Av xs.length cv) xs num (q1, q2) V from fun V L Fs hS hb => by
      obtain ⟨mm, e1, hp⟩ := HRD.out.done (fun _ => HX.out.no (by rw [strip_len, HDL.out]; exact hb))
      refine ⟨pre, ((num + pre.length : Nat) : Int), mm, ⟨i, u, A, c, hi, Nat.le_trans (Nat.le_trans z1 (Nat.le_trans z2 z3)) hS.oth.size, ?_⟩, e1, hp⟩
      simp only [RdL]
      rw [HE0.out]
      exact (hS.st.dropL L).dropF (fun G hG => List.mem_append_right _ hG))
    gi_wp2_with fail
    refine wpIn_region_tr (.yield 0 (.yield 1 (.yield 2 (.yield 3 (.act 4 (.yield 5 (.yield 6 (.yield 7 (.yield 8 (.yield 9 .done))))) .none))))) (fun _ => trivial) (by kernel_rfl) (by kernel_rfl) (by kernel_rfl) (by kernel_rfl) (fun _ _ _ _ _ h => h) (fun w' => Sk W w w' [Blk q1 [.int .i64 i] 3, Blk q2 [u] 37, Row (.slice A pre.length c) 37 1 pre.length (itCells pre), Blk bb [.slice Av xs.length cv] 28, Blk b5 [.int .i64 (e0 : Int)] 3, Blk b4 [.slice A pre.length c] 22, Blk b3 [.int .u64 ((num + pre.length : Nat) : Int)] 26, Blk b2 [.slice Av xs.length cv] 28] [GOwn B T (.slice Ax (m + 1) cx) l, GsOwn w.heap.size hi pre, fun V => HB V (.slice Av xs.length cv) xs]) HS.out.drew ?_
    intro OPS hops
    have hS := HS.out.drew
    clear HS; have HS := Lib.hid hS; clear hS
    refine wpTI_yield _ (by rw [hops.out]; simp only [List.getElem?_toArray, List.getElem?_cons_succ, List.getElem?_cons_zero]; rfl) (by first | rfl | (rw [hops.out]; rfl)) (fun w' hS => by first | exact run_ld (by kernel_rfl) (by rfl) (by rfl) (hS.st.cell (i := 6) rfl (by rfl)) | exact run_sl31 (m) (by rfl) (by rfl) (by rfl) (by omega) HCAP.out | (go_simp; rfl)) ?_
    simp only [Act.put, List.setIfInBounds_toArray, List.set_cons_succ, List.set_cons_zero]
    refine wpTI_yield _ (by rw [hops.out]; simp only [List.getElem?_toArray, List.getElem?_cons_succ, List.getElem?_cons_zero]; rfl) (by first | rfl | (rw [hops.out]; rfl)) (fun w' hS => by first | exact run_ld (by kernel_rfl) (by rfl) (by rfl) (hS.st.cell (i := 6) rfl (by rfl)) | exact run_sl31 (m) (by rfl) (by rfl) (by rfl) (by omega) HCAP.out | (go_simp; rfl)) ?_
    simp only [Act.put, List.setIfInBounds_toArray, List.set_cons_succ, List.set_cons_zero]
    refine wpTI_yield _ (by rw [hops.out]; simp only [List.getElem?_toArray, List.getElem?_cons_succ, List.getElem?_cons_zero]; rfl) (by first | rfl | (rw [hops.out]; rfl)) (fun w' hS => by first | exact run_ld (by kernel_rfl) (by rfl) (by rfl) (hS.st.cell (i := 6) rfl (by rfl)) | exact run_sl31 (m) (by rfl) (by rfl) (by rfl) (by omega) HCAP.out | (go_simp; rfl)) ?_
    simp only [Act.put, List.setIfInBounds_toArray, List.set_cons_succ, List.set_cons_zero]
    refine wpTI_yield _ (by rw [hops.out]; simp only [List.getElem?_toArray, List.getElem?_cons_succ, List.getElem?_cons_zero]; rfl) (by first | rfl | (rw [hops.out]; rfl)) (fun w' hS => by first | exact run_ld (by kernel_rfl) (by rfl) (by rfl) (hS.st.cell (i := 6) rfl (by rfl)) | exact run_sl31 (m) (by rfl) (by rfl) (by rfl) (by omega) HCAP.out | (go_simp; rfl)) ?_
    simp only [Act.put, List.setIfInBounds_toArray, List.set_cons_succ, List.set_cons_zero]
    refine wpTI_act (by rw [hops.out]; simp only [List.getElem?_toArray, List.getElem?_cons_succ, List.getElem?_cons_zero]; rfl) (by first | rfl | (rw [hops.out]; rfl)) ?_ trivial
    go_simp
    refine ⟨trivial, ?_⟩
    refine (callsIn_wide.2 (HSEG.out _ (HS.out.st.fact (i := 0) rfl))).mono ?_
    rintro e Wn ⟨v13, rfl, hb⟩
    have hS := HS.out.take hb
    clear HS; have HS := Lib.hid hS; clear hS hb
    refine ⟨HS.out.sub 0, ?_⟩
    try simp only [Act.put, List.setIfInBounds_toArray, List.set_cons_succ, List.set_cons_zero]
    refine wpTI_yield _ (by rw [hops.out]; simp only [List.getElem?_toArray, List.getElem?_cons_succ, List.getElem?_cons_zero]; rfl) (by first | rfl | (rw [hops.out]; rfl)) (fun w' hS => by first | exact run_ld (by kernel_rfl) (by rfl) (by rfl) (hS.st.cell (i := 6) rfl (by rfl)) | exact run_sl31 (m) (by rfl) (by rfl) (by rfl) (by omega) HCAP.out | (go_simp; rfl)) ?_
    simp only [Act.put, List.setIfInBounds_toArray, List.set_cons_succ, List.set_cons_zero]
    refine wpTI_yield _ (by rw [hops.out]; simp only [List.getElem?_toArray, List.getElem?_cons_succ, List.getElem?_cons_zero]; rfl) (by first | rfl | (rw [hops.out]; rfl)) (fun w' hS => by first | exact run_ld (by kernel_rfl) (by rfl) (by rfl) (hS.st.cell (i := 6) rfl (by rfl)) | exact run_sl31 (m) (by rfl) (by rfl) (by rfl) (by omega) HCAP.out | (go_simp; rfl)) ?_
    simp only [Act.put, List.setIfInBounds_toArray, List.set_cons_succ, List.set_cons_zero]
    refine wpTI_yield _ (by rw [hops.out]; simp only [List.getElem?_toArray, List.getElem?_cons_succ, List.getElem?_cons_zero]; rfl) (by first | rfl | (rw [hops.out]; rfl)) (fun w' hS => by first | exact run_ld (by kernel_rfl) (by rfl) (by rfl) (hS.st.cell (i := 6) rfl (by rfl)) | exact run_sl31 (m) (by rfl) (by rfl) (by rfl) (by omega) HCAP.out | (go_simp; rfl)) ?_
    simp only [Act.put, List.setIfInBounds_toArray, List.set_cons_succ, List.set_cons_zero]
    refine wpTI_yield _ (by rw [hops.out]; simp only [List.getElem?_toArray, List.getElem?_cons_succ, List.getElem?_cons_zero]; rfl) (by first | rfl | (rw [hops.out]; rfl)) (fun w' hS => by first | exact run_ld (by kernel_rfl) (by rfl) (by rfl) (hS.st.cell (i := 6) rfl (by rfl)) | exact run_sl31 (m) (by rfl) (by rfl) (by rfl) (by omega) HCAP.out | (go_simp; rfl)) ?_
    simp only [Act.put, List.setIfInBounds_toArray, List.set_cons_succ, List.set_cons_zero]
    refine wpTI_yield _ (by rw [hops.out]; simp only [List.getElem?_toArray, List.getElem?_cons_succ, List.getElem?_cons_zero]; rfl) (by first | rfl | (rw [hops.out]; rfl)) (fun w' hS => by first | exact run_ld (by kernel_rfl) (by rfl) (by rfl) (hS.st.cell (i := 6) rfl (by rfl)) | exact run_sl31 (m) (by rfl) (by rfl) (by rfl) (by omega) HCAP.out | (go_simp; rfl)) ?_
    simp only [Act.put, List.setIfInBounds_toArray, List.set_cons_succ, List.set_cons_zero]
    simp only [wpTI]
    clear OPS hops
    cases hok : segOk (num + pre.length) (l.take m) with
    | false =>
      have hse : segE (num + pre.length) (l.take m) = 170 := by unfold segE; rw [hok]; rfl
      rw [hse]
      have HOK := Lib.hid hok
      clear hok hse
      gi_wp2_with fail
      refine ⟨HS.out.oth.from _, keep3 HS0.out HS.out.st (i := 0) (j := 1) (k := 3) (i' := 1) (j' := 2) (k' := 4) rfl rfl rfl rfl rfl rfl, HFIN.out _ [_] [_] HS.out (.inl HOK.out)⟩
    | true =>
      have hse : segE (num + pre.length) (l.take m) = 0 := by unfold segE; rw [hok]; rfl
      have hso : segO (num + pre.length) (l.take m) = encL (segL (num + pre.length) (l.take m)) := by unfold segO; rw [hok]; rfl
      rw [hse]
      have HOK := Lib.hid hok; have HSO := Lib.hid hso
      clear hok hse hso
      have hcut : (xs.drop e0).take (a0 - e0) = encL l := by
        have := HX.out.cut
        rw [HE0.out, Int.toNat_natCast, Int.toNat_natCast, List.drop_take] at this
        exact this
      have HCUT := Lib.hid hcut
      clear hcut
      by_cases heq : segO (num + pre.length) (l.take m) = (xs.drop e0).take (a0 - e0)
      · have hdq : decide (segO (num + pre.length) (l.take m) = (xs.drop e0).take (a0 - e0)) = true := decide_eq_true heq
        have HDQ := Lib.hid hdq; have HEQ := Lib.hid heq
        clear hdq heq
        gi_wp2_with (first
          | (refine itd 30 (by rfl) ?_; refine il (by rfl) (i_ld HS.out 8 (by rfl) (by rfl) (by rfl) (by kernel_rfl) (by rfl) ?_))
          | (refine itd 31 (by rfl) ?_; refine il (by rfl) (i_ld HS.out 5 (by rfl) (by rfl) (by rfl) (by kernel_rfl) (by rfl) ?_))
          | (refine itd 33 (by rfl) ?_; refine il (by rfl) (wpIn_of_run (by intro c h; cases h) (by rfl) (run_sllh e0 a0 (by rfl) (by rfl) (by rfl) (by rfl) (by have := HE1.out; omega) HE1.out.2.1 hlc) ?_))
          | (gi_at_call 21; refine (callsIn_wide.2 (equal47 _ _ (segO (num + pre.length) (l.take m)) ((xs.drop e0).take (a0 - e0)) _ (Row.hb (HS.out.st.res (i := 0) rfl)) (HB.cut (HS.out.st.fact (i := 2) rfl) (by have := HE1.out; omega) HE1.out.2.1))).mono ?_; rintro e Wn ⟨rfl, rfl⟩; rw [HDQ.out]))
        have hS := HS.out.sub 0
        clear HS; have HS := Lib.hid hS; clear hS
        have hrd2 : RdTo xs num (strip (pre ++ [⟨(a0 : Int), l, Ax, cx⟩])) (a0 : Int) := by
          rw [strip_snoc]
          refine HRD.out.snoc HX.out ?_ ?_ ?_
          · rw [strip_len]; dsimp only; rw [HDL.out]; exact HOK.out
          · rw [strip_len]; dsimp only; rw [HDL.out, ← HSO.out, HEQ.out, HCUT.out]
          · rw [strip_len]; exact HNUM.out
        have HRD2 := Lib.hid (show RdTo xs num (strip (pre ++ [⟨(a0 : Int), l, Ax, cx⟩])) (endI (pre ++ [⟨(a0 : Int), l, Ax, cx⟩])) by rw [endI_snoc]; exact hrd2)
        clear hrd2
        have HNEXT := Lib.hid (show ∀ V (n3 : Int) (A2 : Option Addr) (c2 : Nat) (M : List Res), Sk W w V (M ++ [Blk q1 [.int .i64 i] 3, Blk q2 [u] 37, Row (.slice A2 (pre.length + 1) c2) 37 1 (pre.length + 1) (itCells pre ++ [.slice Ax m m]), Blk bb [.slice Av xs.length cv] 28, Blk b5 [.int .i64 (a0 : Int)] 3, Blk b4 [.slice A2 (pre.length + 1) c2] 22, Blk b3 [.int .u64 n3] 26, Blk b2 [.slice Av xs.length cv] 28]) [GOwn B T (.slice Ax (m + 1) cx) l, GsOwn w.heap.size hi pre, fun V => HB V (.slice Av xs.length cv) xs] → RdSt w bb b2 b3 b4 b5 (.slice Av xs.length cv) xs n3 (q1, q2) (pre ++ [⟨(a0 : Int), l, Ax, cx⟩]) V from fun V n3 A2 c2 M hS => by
          refine ⟨i, u, A2, c2, T, Nat.le_trans z3 hS.oth.size, ?_⟩
          have hF : Away (Keys _) (GsOwn w.heap.size T (pre ++ [⟨(a0 : Int), l, Ax, cx⟩])) V := fun V' hs => (hS.st.facts (GsOwn w.heap.size hi pre) (by simp) V' hs).snoc z1 z2 (by have h := hS.st.facts (GOwn B T (.slice Ax (m + 1) cx) l) (by simp) V' hs; rw [← HM.out] at h; exact h)
          have h1 := ((hS.st.addF hF).dropL M).dropF (Gs := [GsOwn w.heap.size T (pre ++ [⟨(a0 : Int), l, Ax, cx⟩]), fun V => HB V (.slice Av xs.length cv) xs]) (fun G hG => by simp only [List.mem_cons, List.not_mem_nil, or_false] at hG ⊢; rcases hG with h | h; exact .inl h; exact .inr (.inr (.inr h)))
          simp only [RdL]
          rw [endI_snoc, itCells_snoc, List.length_append]
          dsimp only [itCell]
          rw [HM.out, Nat.add_sub_cancel]
          exact h1)
        apply iregion_join3 (S := fun (b42 : Nat) (A2 : Option Addr) (c2 : Nat) V => Sk W w V [Row (.slice (some ⟨b42, 0, none⟩) 1 1) 37 1 1 [.slice Ax m m], Blk q1 [.int .i64 i] 3, Blk q2 [u] 37, Row (.slice A2 (pre.length + 1) c2) 37 1 (pre.length + 1) (itCells pre ++ [.slice Ax m m]), Blk bb [.slice Av xs.length cv] 28, Blk b5 [.int .i64 (a0 : Int)] 3, Blk b4 [.slice A2 (pre.length + 1) c2] 22, Blk b3 [.int .u64 ((num + pre.length : Nat) : Int)] 26, Blk b2 [.slice Av xs.length cv] 28] [GOwn B T (.slice Ax (m + 1) cx) l, GsOwn w.heap.size hi pre, fun V => HB V (.slice Av xs.length cv) xs])
        case hreg =>
          refine wpIn_region_tr (.yield 1 (.yield 2 (.yield 3 (.yield 4 (.yield 7 (.act 0 (.act 5 (.act 6 (.act 8 (.act 9 .done .none) .none) .none) .none) (.act 5 (.act 0 (.act 6 (.act 8 (.act 9 .done .none) .none) .none) .none) .none))))))) (fun _ => trivial) (by kernel_rfl) (by kernel_rfl) (by kernel_rfl) (by kernel_rfl) (fun _ _ _ _ _ h => absurd h.1 (by simp)) (fun w' => Sk W w w' [] []) HS.out.none.drew ?_
          intro OPS hops
          have hS := HS.out.drew
          have HS := Lib.hid hS; clear hS
          refine wpTI_yield _ (by rw [hops.out]; simp only [List.getElem?_toArray, List.getElem?_cons_succ, List.getElem?_cons_zero]; rfl) (by first | rfl | (rw [hops.out]; rfl)) (fun w' hS => by first | exact run_sl37 (m) (by rfl) (by rfl) (by rfl) (by rfl) (by omega) HCAP.out | (go_simp; rfl)) ?_
          simp only [Act.put, List.setIfInBounds_toArray, List.set_cons_succ, List.set_cons_zero]
          refine wpTI_yield _ (by rw [hops.out]; simp only [List.getElem?_toArray, List.getElem?_cons_succ, List.getElem?_cons_zero]; rfl) (by first | rfl | (rw [hops.out]; rfl)) (fun w' hS => by first | exact run_sl37 (m) (by rfl) (by rfl) (by rfl) (by rfl) (by omega) HCAP.out | (go_simp; rfl)) ?_
          simp only [Act.put, List.setIfInBounds_toArray, List.set_cons_succ, List.set_cons_zero]
          refine wpTI_yield _ (by rw [hops.out]; simp only [List.getElem?_toArray, List.getElem?_cons_succ, List.getElem?_cons_zero]; rfl) (by first | rfl | (rw [hops.out]; rfl)) (fun w' hS => by first | exact run_sl37 (m) (by rfl) (by rfl) (by rfl) (by rfl) (by omega) HCAP.out | (go_simp; rfl)) ?_
          simp only [Act.put, List.setIfInBounds_toArray, List.set_cons_succ, List.set_cons_zero]
          refine wpTI_yield _ (by rw [hops.out]; simp only [List.getElem?_toArray, List.getElem?_cons_succ, List.getElem?_cons_zero]; rfl) (by first | rfl | (rw [hops.out]; rfl)) (fun w' hS => by first | exact run_sl37 (m) (by rfl) (by rfl) (by rfl) (by rfl) (by omega) HCAP.out | (go_simp; rfl)) ?_
          simp only [Act.put, List.setIfInBounds_toArray, List.set_cons_succ, List.set_cons_zero]
          refine wpTI_yield _ (by rw [hops.out]; simp only [List.getElem?_toArray, List.getElem?_cons_succ, List.getElem?_cons_zero]; rfl) (by first | rfl | (rw [hops.out]; rfl)) (fun w' hS => by first | exact run_sl37 (m) (by rfl) (by rfl) (by rfl) (by rfl) (by omega) HCAP.out | (go_simp; rfl)) ?_
          simp only [Act.put, List.setIfInBounds_toArray, List.set_cons_succ, List.set_cons_zero]
          refine wpTI_act (by rw [hops.out]; simp only [List.getElem?_toArray, List.getElem?_cons_succ, List.getElem?_cons_zero]; rfl) (by first | rfl | (rw [hops.out]; rfl)) ?_ ?_
          · first | refine i_ld HS.out 5 (by rfl) (by rfl) (by rfl) (by kernel_rfl) (by rfl) ?_ | refine i_ld HS.out 6 (by rfl) (by rfl) (by rfl) (by kernel_rfl) (by rfl) ?_
            refine ⟨HS.out.none, ?_⟩
            try simp only [Act.put, List.setIfInBounds_toArray, List.set_cons_succ, List.set_cons_zero]
            refine wpTI_act (by rw [hops.out]; simp only [List.getElem?_toArray, List.getElem?_cons_succ, List.getElem?_cons_zero]; rfl) (by first | rfl | (rw [hops.out]; rfl)) ?_ trivial
            refine i_bs (E := 37) (z := .slice none 0 0) HS.out 1 1 [.slice Ax m m] (by rfl) Try.underlying22 (by kernel_rfl) (by rfl) (by decide) (by decide) (by kernel_rfl) (by rfl) (by decide) ?_
            intro b42 Wn hS
            clear HS; have HS := Lib.hid hS; clear hS
            refine ⟨HS.out.none, ?_⟩
            try simp only [Act.put, List.setIfInBounds_toArray, List.set_cons_succ, List.set_cons_zero]
            refine wpTI_act (by rw [hops.out]; simp only [List.getElem?_toArray, List.getElem?_cons_succ, List.getElem?_cons_zero]; rfl) (by first | rfl | (rw [hops.out]; rfl)) ?_ trivial
            refine i_rows (size := 1) (z := .slice none 0 0) (bytes := 24) HS.out 3 0 (by rfl) (by rfl) Try.underlying22 (by kernel_rfl) (by rfl) (by decide) (by rfl) (by rfl) (by rfl) (by rfl) (by intro v hv; simp at hv; subst hv; rfl) (by omega) (by omega) ?_
            intro v43 Wn hS
            obtain ⟨A2, c2, rfl⟩ := Row.sl (hS.st.res (i := 3) rfl)
            clear HS; have HS := Lib.hid hS; clear hS
            refine ⟨HS.out.none, ?_⟩
            try simp only [Act.put, List.setIfInBounds_toArray, List.set_cons_succ, List.set_cons_zero]
            refine wpTI_act (by rw [hops.out]; simp only [List.getElem?_toArray, List.getElem?_cons_succ, List.getElem?_cons_zero]; rfl) (by first | rfl | (rw [hops.out]; rfl)) ?_ trivial
            refine i_st (v := .slice A2 (pre.length + 1) c2) HS.out 6 (by rfl) (by rfl) (by rfl) (by kernel_rfl) (by rfl) (by rfl) (by exact Nat.zero_lt_one) ?_
            intro Wn hS
            clear HS; have HS := Lib.hid hS; clear hS
            refine ⟨HS.out.none, ?_⟩
            try simp only [Act.put, List.setIfInBounds_toArray, List.set_cons_succ, List.set_cons_zero]
            refine wpTI_act (by rw [hops.out]; simp only [List.getElem?_toArray, List.getElem?_cons_succ, List.getElem?_cons_zero]; rfl) (by first | rfl | (rw [hops.out]; rfl)) ?_ trivial
            refine i_st (v := .int .i64 (a0 : Int)) HS.out 5 (by rfl) (by rfl) (by rfl) (by kernel_rfl) (by rfl) (by rfl) (by exact Nat.zero_lt_one) ?_
            intro Wn hS
            clear HS; have HS := Lib.hid hS; clear hS
            refine ⟨HS.out.none, ?_⟩
            try simp only [Act.put, List.setIfInBounds_toArray, List.set_cons_succ, List.set_cons_zero]
            exact ⟨rfl, b42, A2, c2, rfl, HS.out⟩
          refine wpTI_act (by rw [hops.out]; simp only [List.getElem?_toArray, List.getElem?_cons_succ, List.getElem?_cons_zero]; rfl) (by first | rfl | (rw [hops.out]; rfl)) ?_ ?_
          · refine i_bs (E := 37) (z := .slice none 0 0) HS.out 1 1 [.slice Ax m m] (by rfl) Try.underlying22 (by kernel_rfl) (by rfl) (by decide) (by decide) (by kernel_rfl) (by rfl) (by decide) ?_
            intro b42 Wn hS
            clear HS; have HS := Lib.hid hS; clear hS
            refine ⟨HS.out.none, ?_⟩
            try simp only [Act.put, List.setIfInBounds_toArray, List.set_cons_succ, List.set_cons_zero]
            refine wpTI_act (by rw [hops.out]; simp only [List.getElem?_toArray, List.getElem?_cons_succ, List.getElem?_cons_zero]; rfl) (by first | rfl | (rw [hops.out]; rfl)) ?_ trivial
            first | refine i_ld HS.out 5 (by rfl) (by rfl) (by rfl) (by kernel_rfl) (by rfl) ?_ | refine i_ld HS.out 6 (by rfl) (by rfl) (by rfl) (by kernel_rfl) (by rfl) ?_
            refine ⟨HS.out.none, ?_⟩
            try simp only [Act.put, List.setIfInBounds_toArray, List.set_cons_succ, List.set_cons_zero]
            refine wpTI_act (by rw [hops.out]; simp only [List.getElem?_toArray, List.getElem?_cons_succ, List.getElem?_cons_zero]; rfl) (by first | rfl | (rw [hops.out]; rfl)) ?_ trivial
            refine i_rows (size := 1) (z := .slice none 0 0) (bytes := 24) HS.out 3 0 (by rfl) (by rfl) Try.underlying22 (by kernel_rfl) (by rfl) (by decide) (by rfl) (by rfl) (by rfl) (by rfl) (by intro v hv; simp at hv; subst hv; rfl) (by omega) (by omega) ?_
            intro v43 Wn hS
            obtain ⟨A2, c2, rfl⟩ := Row.sl (hS.st.res (i := 3) rfl)
            clear HS; have HS := Lib.hid hS; clear hS
            refine ⟨HS.out.none, ?_⟩
            try simp only [Act.put, List.setIfInBounds_toArray, List.set_cons_succ, List.set_cons_zero]
            refine wpTI_act (by rw [hops.out]; simp only [List.getElem?_toArray, List.getElem?_cons_succ, List.getElem?_cons_zero]; rfl) (by first | rfl | (rw [hops.out]; rfl)) ?_ trivial
            refine i_st (v := .slice A2 (pre.length + 1) c2) HS.out 6 (by rfl) (by rfl) (by rfl) (by kernel_rfl) (by rfl) (by rfl) (by exact Nat.zero_lt_one) ?_
            intro Wn hS
            clear HS; have HS := Lib.hid hS; clear hS
            refine ⟨HS.out.none, ?_⟩
            try simp only [Act.put, List.setIfInBounds_toArray, List.set_cons_succ, List.set_cons_zero]
            refine wpTI_act (by rw [hops.out]; simp only [List.getElem?_toArray, List.getElem?_cons_succ, List.getElem?_cons_zero]; rfl) (by first | rfl | (rw [hops.out]; rfl)) ?_ trivial
            refine i_st (v := .int .i64 (a0 : Int)) HS.out 5 (by rfl) (by rfl) (by rfl) (by kernel_rfl) (by rfl) (by rfl) (by exact Nat.zero_lt_one) ?_
            intro Wn hS
            clear HS; have HS := Lib.hid hS; clear hS
            refine ⟨HS.out.none, ?_⟩
            try simp only [Act.put, List.setIfInBounds_toArray, List.set_cons_succ, List.set_cons_zero]
            exact ⟨rfl, b42, A2, c2, rfl, HS.out⟩
          exact trivial
        case hK =>
          intro b42 A2 c2 Wn hS
          clear HS; have HS := Lib.hid hS; clear hS
          by_cases hN : num + pre.length + 1 = 18446744073709551616
          · have hwz : IntKind.u64.wrap (((num : Int) + (pre.length : Int)) + 1) = 0 := by rw [show ((num : Int) + (pre.length : Int)) + 1 = 18446744073709551616 by omega]; rfl
            gi_wp2_with (first
              | (refine itd 45 (by rfl) ?_; refine il (by rfl) (i_ld HS.out 7 (by rfl) (by rfl) (by rfl) (by kernel_rfl) (by rfl) ?_))
              | (refine il (by rfl) (i_st (v := .int .u64 (0)) HS.out 7 (by rfl) (by rfl) (by rfl) (by kernel_rfl) (by rfl) (by rfl) (by exact Nat.zero_lt_one) ?_); intro Wn hS; clear HS; have HS := Lib.hid hS; clear hS)
              | (refine itd 47 (by rfl) ?_; refine il (by rfl) (i_ld HS.out 7 (by rfl) (by rfl) (by rfl) (by kernel_rfl) (by rfl) ?_)))
            refine ⟨HS.out.oth.from _, keep3 HS0.out HS.out.st (i := 0) (j := 1) (k := 3) (i' := 1) (j' := 2) (k' := 4) rfl rfl rfl rfl rfl rfl, ?_⟩
            have hst := HNEXT.out _ _ A2 c2 [_] HS.out
            obtain ⟨mm, e1, hp⟩ := HRD2.out.done (fun h => by rw [strip_len, List.length_append] at h; exact absurd h (by simp only [List.length_cons, List.length_nil]; omega))
            exact ⟨_, _, mm, hst, e1, hp⟩
          · have hN2 : num + pre.length + 1 < 18446744073709551616 := by have := HNUM.out; omega
            gi_wp2_with (first
              | (refine itd 45 (by rfl) ?_; refine il (by rfl) (i_ld HS.out 7 (by rfl) (by rfl) (by rfl) (by kernel_rfl) (by rfl) ?_))
              | (refine il (by rfl) (i_st (v := .int .u64 (((num + pre.length + 1 : Nat) : Int))) HS.out 7 (by rfl) (by rfl) (by rfl) (by kernel_rfl) (by exact congrArg (Value.int .u64) (by push_cast; rfl)) (by rfl) (by exact Nat.zero_lt_one) ?_); intro Wn hS; clear HS; have HS := Lib.hid hS; clear hS)
              | (refine itd 47 (by rfl) ?_; refine il (by rfl) (i_ld HS.out 7 (by rfl) (by rfl) (by rfl) (by kernel_rfl) (by rfl) ?_)))
            refine ⟨HS.out.oth.from _, keep3 HS0.out HS.out.st (i := 0) (j := 1) (k := 3) (i' := 1) (j' := 2) (k' := 4) rfl rfl rfl rfl rfl rfl, ?_⟩
            have hst := HNEXT.out _ _ A2 c2 [_] HS.out
            refine ⟨?_, HRD2.out, ?_, ?_⟩
            · rw [List.length_append]; exact hst
            · rw [List.length_append]; exact hN2
            · rw [endI_snoc, List.length_append]
              have := HCNT.out; have := HE0.out; have := HE1.out
              simp only [List.length_cons, List.length_nil]
              omega
      · have hdq : decide (segO (num + pre.length) (l.take m) = (xs.drop e0).take (a0 - e0)) = false := decide_eq_false heq
        have HDQ := Lib.hid hdq; have HEQ := Lib.hid heq
        clear hdq heq
        gi_wp2_with (first
          | (refine itd 30 (by rfl) ?_; refine il (by rfl) (i_ld HS.out 8 (by rfl) (by rfl) (by rfl) (by kernel_rfl) (by rfl) ?_))
          | (refine itd 31 (by rfl) ?_; refine il (by rfl) (i_ld HS.out 5 (by rfl) (by rfl) (by rfl) (by kernel_rfl) (by rfl) ?_))
          | (refine itd 33 (by rfl) ?_; refine il (by rfl) (wpIn_of_run (by intro c h; cases h) (by rfl) (run_sllh e0 a0 (by rfl) (by rfl) (by rfl) (by rfl) (by have := HE1.out; omega) HE1.out.2.1 hlc) ?_))
          | (gi_at_call 21; refine (callsIn_wide.2 (equal47 _ _ (segO (num + pre.length) (l.take m)) ((xs.drop e0).take (a0 - e0)) _ (Row.hb (HS.out.st.res (i := 0) rfl)) (HB.cut (HS.out.st.fact (i := 2) rfl) (by have := HE1.out; omega) HE1.out.2.1))).mono ?_; rintro e Wn ⟨rfl, rfl⟩; rw [HDQ.out]))
        refine ⟨HS.out.oth.from _, keep3 HS0.out HS.out.st (i := 0) (j := 1) (k := 3) (i' := 1) (j' := 2) (k' := 4) rfl rfl rfl rfl rfl rfl, HFIN.out _ [_] [_] HS.out (.inr (fun e => HEQ.out (by rw [HSO.out, e, HCUT.out])))⟩
  case done =>
    rintro D q ys W hD hE ⟨hs, hrd, hlt, hcnt⟩ hK
    have hx : RdX w bb b2 b3 b4 b5 (.slice Av xs.length cv) xs num q W := by
      obtain ⟨mm, e1, hp⟩ := hrd.done (fun _ g r hg => hE.no hg)
      exact ⟨ys, _, mm, hs, e1, hp⟩
    clear hs hrd hlt hcnt hE
    obtain ⟨q1, q2⟩ := q
    obtain ⟨pr, n3, mm, ⟨i, u, A, c, hi, hz, hs⟩, e1, hp⟩ := hx
    simp only [RdL] at hs
    rw [e1] at hs
    have HZ := Lib.hid hz
    clear HS hz
    have HS := Lib.hid hs.sk
    have HK := Lib.hid hK
    have HD := Lib.hid (Nat.le_trans hbz hD)
    have HP := Lib.hid hp
    clear hs hK hD hp e1
    simp only [Exit.inBlock]
    go_wp2_with fail
    apply region_join0 (S := fun V => Sk W w V [Blk q1 [.int .i64 i] 3, Blk q2 [u] 37, Row (.slice A pr.length c) 37 1 pr.length (itCells pr), Blk bb [.slice Av xs.length cv] 28, Blk b5 [.int .i64 (mm : Int)] 3, Blk b4 [.slice A pr.length c] 22, Blk b3 [.int .u64 n3] 26, Blk b2 [.slice Av xs.length cv] 28] [GsOwn w.heap.size hi pr, fun V => HB V (.slice Av xs.length cv) xs])
    case hreg =>
      refine wp_region_tr (.yield 0 (.yield 1 (.act 2 (.act 3 .done .none) .none))) (by kernel_rfl) (by kernel_rfl) (by kernel_rfl) (fun _ _ _ _ _ h => absurd h.1 (by simp)) (fun w' => Sk W w w' [Blk q1 [.int .i64 i] 3, Blk q2 [u] 37, Row (.slice A pr.length c) 37 1 pr.length (itCells pr), Blk bb [.slice Av xs.length cv] 28, Blk b5 [.int .i64 (mm : Int)] 3, Blk b4 [.slice A pr.length c] 22, Blk b3 [.int .u64 n3] 26, Blk b2 [.slice Av xs.length cv] 28] [GsOwn w.heap.size hi pr, fun V => HB V (.slice Av xs.length cv) xs]) HS.out.drew ?_
      intro OPS hops
      have hS := HS.out.drew
      have HS := Lib.hid hS; clear hS
      refine wpT_yield _ (by rw [hops.out]; simp only [List.getElem?_toArray, List.getElem?_cons_succ, List.getElem?_cons_zero]; rfl) (by first | rfl | (rw [hops.out]; rfl)) (fun w' hS => by first | exact run_ld (by kernel_rfl) (by rfl) (by rfl) (hS.st.cell (i := 5) rfl (by rfl)) | exact run_ld (by kernel_rfl) (by rfl) (by rfl) (hS.st.cell (i := 4) rfl (by rfl)) | (go_simp; rfl)) ?_
      simp only [Act.put, List.setIfInBounds_toArray, List.set_cons_succ, List.set_cons_zero]
      refine wpT_yield _ (by rw [hops.out]; simp only [List.getElem?_toArray, List.getElem?_cons_succ, List.getElem?_cons_zero]; rfl) (by first | rfl | (rw [hops.out]; rfl)) (fun w' hS => by first | exact run_ld (by kernel_rfl) (by rfl) (by rfl) (hS.st.cell (i := 5) rfl (by rfl)) | exact run_ld (by kernel_rfl) (by rfl) (by rfl) (hS.st.cell (i := 4) rfl (by rfl)) | (go_simp; rfl)) ?_
      simp only [Act.put, List.setIfInBounds_toArray, List.set_cons_succ, List.set_cons_zero]
      refine wpT_act (by rw [hops.out]; simp only [List.getElem?_toArray, List.getElem?_cons_succ, List.getElem?_cons_zero]; rfl) (by first | rfl | (rw [hops.out]; rfl)) ?_ trivial
      refine k_st (v := (.slice A pr.length c)) HS.out 5 (by rfl) (by rfl) (by rfl) (by kernel_rfl) (by rfl) (by rfl) (by exact Nat.zero_lt_one) ?_
      intro Wn hS
      have HS := Lib.hid hS; clear hS
      refine ⟨HS.out, ?_⟩
      try simp only [Act.put, List.setIfInBounds_toArray, List.set_cons_succ, List.set_cons_zero]
      refine wpT_act (by rw [hops.out]; simp only [List.getElem?_toArray, List.getElem?_cons_succ, List.getElem?_cons_zero]; rfl) (by first | rfl | (rw [hops.out]; rfl)) ?_ trivial
      refine k_st (v := (.int .i64 (mm : Int))) HS.out 4 (by rfl) (by rfl) (by rfl) (by kernel_rfl) (by rfl) (by rfl) (by exact Nat.zero_lt_one) ?_
      intro Wn hS
      have HS := Lib.hid hS; clear hS
      refine ⟨HS.out, ?_⟩
      try simp only [Act.put, List.setIfInBounds_toArray, List.set_cons_succ, List.set_cons_zero]
      exact ⟨rfl, rfl, HS.out⟩
    case hK =>
      intro Wn hS
      clear HS; have HS := Lib.hid hS; clear hS
      go_wp2_with fail
      have hKn := HS.out.oth.same D _ HK.out rfl
      try rw [Exit.noGoto_ret]
      refine ⟨by simp, .inl ⟨_, _, rfl, run_takeDeferred hKn, ?_⟩⟩
      have hS2 := HS.out.st.book (W' := Wn.putObj D (.deferred none)) (grownBy_putObj' Wn D _) (fun r e => by cases e; exact ⟨HD.out, _, hKn, rfl⟩)
      have hz2 : hi ≤ (Wn.putObj D (.deferred none)).heap.size := Nat.le_trans HZ.out (Nat.le_trans HS.out.oth.size (grownBy_putObj' Wn D (.deferred none)).size)
      exact ⟨_, ret_cc2 (p := 4) (q := 5) rfl _ b4 b5 (.slice A pr.length c) (.int .i64 (mm : Int)) (by rfl) (by rfl) (by kernel_rfl) (by kernel_rfl) (hS2.cell (i := 5) rfl (by rfl)) (hS2.cell (i := 4) rfl (by rfl)), pr, _, mm, HP.out, rfl, hS2.below, hS2.own_row (i := 2) rfl, (hS2.fact (i := 0) rfl).more hz2⟩
  case stop =>
    rintro D c' q ys W hD ⟨rfl, hx⟩ hK
    obtain ⟨q1, q2⟩ := q
    obtain ⟨pr, n3, mm, ⟨i, u, A, c, hi, hz, hs⟩, e1, hp⟩ := hx
    simp only [RdL] at hs
    rw [e1] at hs
    have HZ := Lib.hid hz
    clear HS hz
    have HS := Lib.hid hs.sk
    have HK := Lib.hid hK
    have HD := Lib.hid (Nat.le_trans hbz hD)
    have HP := Lib.hid hp
    clear hs hK hD hp e1
    gi_wp2_with fail
    try simp only [Exit.inBlock]
    go_wp2_with fail
    apply region_join0 (S := fun V => Sk W w V [Blk q1 [.int .i64 i] 3, Blk q2 [u] 37, Row (.slice A pr.length c) 37 1 pr.length (itCells pr), Blk bb [.slice Av xs.length cv] 28, Blk b5 [.int .i64 (mm : Int)] 3, Blk b4 [.slice A pr.length c] 22, Blk b3 [.int .u64 n3] 26, Blk b2 [.slice Av xs.length cv] 28] [GsOwn w.heap.size hi pr, fun V => HB V (.slice Av xs.length cv) xs])
    case hreg =>
      refine wp_region_tr (.yield 0 (.yield 1 (.act 2 (.act 3 .done .none) .none))) (by kernel_rfl) (by kernel_rfl) (by kernel_rfl) (fun _ _ _ _ _ h => absurd h.1 (by simp)) (fun w' => Sk W w w' [Blk q1 [.int .i64 i] 3, Blk q2 [u] 37, Row (.slice A pr.length c) 37 1 pr.length (itCells pr), Blk bb [.slice Av xs.length cv] 28, Blk b5 [.int .i64 (mm : Int)] 3, Blk b4 [.slice A pr.length c] 22, Blk b3 [.int .u64 n3] 26, Blk b2 [.slice Av xs.length cv] 28] [GsOwn w.heap.size hi pr, fun V => HB V (.slice Av xs.length cv) xs]) HS.out.drew ?_
      intro OPS hops
      have hS := HS.out.drew
      have HS := Lib.hid hS; clear hS
      refine wpT_yield _ (by rw [hops.out]; simp only [List.getElem?_toArray, List.getElem?_cons_succ, List.getElem?_cons_zero]; rfl) (by first | rfl | (rw [hops.out]; rfl)) (fun w' hS => by first | exact run_ld (by kernel_rfl) (by rfl) (by rfl) (hS.st.cell (i := 5) rfl (by rfl)) | exact run_ld (by kernel_rfl) (by rfl) (by rfl) (hS.st.cell (i := 4) rfl (by rfl)) | (go_simp; rfl)) ?_
      simp only [Act.put, List.setIfInBounds_toArray, List.set_cons_succ, List.set_cons_zero]
      refine wpT_yield _ (by rw [hops.out]; simp only [List.getElem?_toArray, List.getElem?_cons_succ, List.getElem?_cons_zero]; rfl) (by first | rfl | (rw [hops.out]; rfl)) (fun w' hS => by first | exact run_ld (by kernel_rfl) (by rfl) (by rfl) (hS.st.cell (i := 5) rfl (by rfl)) | exact run_ld (by kernel_rfl) (by rfl) (by rfl) (hS.st.cell (i := 4) rfl (by rfl)) | (go_simp; rfl)) ?_
      simp only [Act.put, List.setIfInBounds_toArray, List.set_cons_succ, List.set_cons_zero]
      refine wpT_act (by rw [hops.out]; simp only [List.getElem?_toArray, List.getElem?_cons_succ, List.getElem?_cons_zero]; rfl) (by first | rfl | (rw [hops.out]; rfl)) ?_ trivial
      refine k_st (v := (.slice A pr.length c)) HS.out 5 (by rfl) (by rfl) (by rfl) (by kernel_rfl) (by rfl) (by rfl) (by exact Nat.zero_lt_one) ?_
      intro Wn hS
      have HS := Lib.hid hS; clear hS
      refine ⟨HS.out, ?_⟩
      try simp only [Act.put, List.setIfInBounds_toArray, List.set_cons_succ, List.set_cons_zero]
      refine wpT_act (by rw [hops.out]; simp only [List.getElem?_toArray, List.getElem?_cons_succ, List.getElem?_cons_zero]; rfl) (by first | rfl | (rw [hops.out]; rfl)) ?_ trivial
      refine k_st (v := (.int .i64 (mm : Int))) HS.out 4 (by rfl) (by rfl) (by rfl) (by kernel_rfl) (by rfl) (by rfl) (by exact Nat.zero_lt_one) ?_
      intro Wn hS
      have HS := Lib.hid hS; clear hS
      refine ⟨HS.out, ?_⟩
      try simp only [Act.put, List.setIfInBounds_toArray, List.set_cons_succ, List.set_cons_zero]
      exact ⟨rfl, rfl, HS.out⟩
    case hK =>
      intro Wn hS
      clear HS; have HS := Lib.hid hS; clear hS
      go_wp2_with fail
      have hKn := HS.out.oth.same D _ HK.out rfl
      try rw [Exit.noGoto_ret]
      refine ⟨by simp, .inl ⟨_, _, rfl, run_takeDeferred hKn, ?_⟩⟩
      have hS2 := HS.out.st.book (W' := Wn.putObj D (.deferred none)) (grownBy_putObj' Wn D _) (fun r e => by cases e; exact ⟨HD.out, _, hKn, rfl⟩)
      have hz2 : hi ≤ (Wn.putObj D (.deferred none)).heap.size := Nat.le_trans HZ.out (Nat.le_trans HS.out.oth.size (grownBy_putObj' Wn D (.deferred none)).size)
      exact ⟨_, ret_cc2 (p := 4) (q := 5) rfl _ b4 b5 (.slice A pr.length c) (.int .i64 (mm : Int)) (by rfl) (by rfl) (by kernel_rfl) (by kernel_rfl) (hS2.cell (i := 5) rfl (by rfl)) (hS2.cell (i := 4) rfl (by rfl)), pr, _, mm, HP.out, rfl, hS2.below, hS2.own_row (i := 2) rfl, (hS2.fact (i := 0) rfl).more hz2⟩
end
section
open Go Go.RowKit Go.Proofs
attribute [local irreducible] Calls

/-- A slice of slices of records: the cells' values, and their records. -/
def GSv (W : World) (v : Value) (l : List (Value × Grp)) : Prop :=
  ∃ A c, v = .slice A l.length c ∧ l.length ≤ c ∧ (A = none → l = []) ∧ ∀ a, A = some a → ∀ (i : Nat) x, l[i]? = some x → a = ⟨a.block, a.off, none⟩ ∧ W.cell? (a.add i) = some x.1 ∧ RS W x.1 x.2
theorem GSv.shape {W : World} {v : Value} {l : List (Value × Grp)} (h : GSv W v l) : ∃ A c, v = .slice A l.length c ∧ l.length ≤ c := by
  obtain ⟨A, c, e, h1, _⟩ := h; exact ⟨A, c, e, h1⟩
theorem GSv.away0 {W : World} {v : Value} {l : List (Value × Grp)} (h : GSv W v l) : Away (Keys []) (fun W => GSv W v l) W := fun V hs => by
  obtain ⟨A, c, rfl, h1, h2, h3⟩ := h
  refine ⟨A, c, rfl, h1, h2, fun a ha i x hx => ?_⟩
  obtain ⟨e, h4, h5⟩ := h3 a ha i x hx
  exact ⟨e, hs.cell (fun ⟨r, hr, _⟩ => by cases hr) h4, h5.away0 V hs⟩
theorem GSv.below {W W' : World} {v : Value} {l : List (Value × Grp)} (h : GSv W v l) (hb : Below W.heap.size W W') : GSv W' v l :=
  h.away0 W' ⟨hb.size, fun k o _ ho _ => (hb.block k (Array.getElem?_eq_some_iff.1 ho).1).trans ho⟩
theorem GSv.get {W : World} {A : Option Addr} {n c : Nat} {l : List (Value × Grp)} (h : GSv W (.slice A n c) l) {i : Nat} (hi : i < l.length) : ∃ b o, A = some ⟨b, o, none⟩ ∧ W.cell? ⟨b, o + i, none⟩ = some l[i].1 ∧ RS W l[i].1 l[i].2 := by
  obtain ⟨A', c', e, h1, h2, h3⟩ := h
  injection e with e1 e2 e3
  subst e1
  cases A with
  | none => have := h2 rfl; subst this; simp at hi
  | some a =>
    obtain ⟨c0, c1, hb⟩ := h3 a rfl i l[i] (List.getElem?_eq_getElem hi)
    obtain ⟨b, o, sp⟩ := a
    injection c0 with _ _ c0
    subst c0
    have ha : ∀ q, (⟨b, o, none⟩ : Addr).add q = ⟨b, o + q, none⟩ := fun q => by simp [Addr.add]
    rw [ha] at c1
    exact ⟨b, o, rfl, c1, hb⟩
theorem GSv.take {W : World} {A : Option Addr} {n c : Nat} {l : List (Value × Grp)} (h : GSv W (.slice A n c) l) (i : Nat) (hi : i ≤ l.length) : GSv W (.slice A i c) (l.take i) := by
  obtain ⟨A', c', e, h1, h2, h3⟩ := h
  injection e with e1 e2 e3
  subst e1 e2 e3
  have hl : (l.take i).length = i := by rw [List.length_take, Nat.min_eq_left hi]
  refine ⟨A, c, by rw [hl], by omega, fun ha => by rw [h2 ha]; simp, fun a ha j x hx => ?_⟩
  rw [List.getElem?_take] at hx
  split at hx
  · exact h3 a ha j x hx
  · cases hx
theorem GSv.of_row {W : World} {B : Nat} {u : Value} {l : List (Value × Grp)} (h : W.ownsRow B 37 1 u l.length (l.map (·.1))) (hp : ∀ x ∈ l, RS W x.1 x.2) : GSv W u l := by
  have hh := h
  rcases h.2 with ⟨rfl, he⟩ | ⟨g, cap, cur, rfl, h1, h2, h3, _⟩
  · have : l = [] := List.eq_nil_of_length_eq_zero he
    subst this
    exact ⟨none, 0, rfl, Nat.zero_le _, fun _ => rfl, fun a ha => by cases ha⟩
  · refine ⟨some ⟨g, 0, none⟩, cap, rfl, h3, (fun e => by cases e), fun a ha i x hx => ?_⟩
    injection ha with ha
    subst ha
    exact ⟨rfl, hh.cells rfl _ _ (by rw [List.getElem?_map, hx]; rfl), hp x (List.mem_of_getElem? hx)⟩
theorem RS.recap {W : World} {A : Option Addr} {n c c' : Nat} {l : Grp} (h : RS W (.slice A n c) l) (hc : n ≤ c') : RS W (.slice A n c') l := by
  obtain ⟨A', c0, e, h1, h2, h3⟩ := h
  injection e with e1 e2 e3
  subst e1 e2 e3
  exact ⟨A, c', rfl, hc, h2, h3⟩
/-- What Read answers, as groups. -/
def glOf (pr : List GIt) : List (Value × Grp) := pr.map fun x => (itCell x, x.l.dropLast)
theorem glOf_snd (pr : List GIt) : (glOf pr).map (·.2) = strip pr := by simp [glOf, strip]
theorem GSv.of_read {W : World} {lo hi : Nat} {u : Value} {pr : List GIt} (h : W.ownsRow lo 37 1 u pr.length (itCells pr)) (hg : GsOwn lo hi pr W) : GSv W u (glOf pr) := by
  refine GSv.of_row (B := lo) (by simpa [glOf, itCells, Function.comp_def] using h) fun x hx => ?_
  simp only [glOf, List.mem_map] at hx
  obtain ⟨y, hy, rfl⟩ := hx
  have h1 := hg.rs y hy
  have h2 := (h1.take (y.l.length - 1) (by omega)).recap (c' := y.l.length - 1) (Nat.le_refl _)
  rw [← List.dropLast_eq_take] at h2
  exact h2
theorem St.tell {w W W' : World} {L : List Res} {Fs : List (World → Prop)} {F : World → Prop} (h : St w W L Fs) (hb : Below W.heap.size W W') (hF : Away (fun k => k < W.heap.size) F W') : St w W' L (F :: Fs) :=
  (h.call hb).addF (hF.mono fun k hk => (h.key_lt hk).2)
theorem read11_gs (v : Value) (xs : List UInt8) (num : Nat) (w : World) (h : HB w v xs) (hn : num < 18446744073709551616) (hl : xs.length ≤ 1000000) (gs : List Grp) (m : Nat) (hp : ReadP xs num gs m) :
    Calls Try.prog 11 #[v, .int .u64 (num : Int)] w fun e w' => ∃ A c gl, e = .returned (.tuple #[.slice A gs.length c, .int .i64 (m : Int)]) ∧ gl.map (·.2) = gs ∧ Below w.heap.size w w' ∧ Away (fun k => k < w.heap.size) (fun V => GSv V (.slice A gs.length c) gl) w' := by
  refine (read11 v xs num w h hn hl).mono ?_
  rintro e w' ⟨pr, u, m', hp', rfl, hb, hr, hg⟩
  obtain ⟨e1, rfl⟩ := hp.uniq hp'
  obtain ⟨A, c, rfl⟩ := own_slice hr
  have el : pr.length = gs.length := by rw [e1, strip_len]
  have hx : Away (fun k => k < w.heap.size) (fun V => GSv V (.slice A pr.length c) (glOf pr)) w' := fun V hs => GSv.of_read (Away.row hr (K := fun k => k < w.heap.size) (fun k hk h => by have := (hr.lt k hk).1; omega) V hs) (hg.away (fun k hk => hk) V hs)
  rw [el] at hx
  exact ⟨A, c, glOf pr, by rw [el], by rw [glOf_snd, e1], hb, hx⟩
def grtG (l : List (Value × Grp)) : Bool := decide (l.length ≤ 20) && l.all fun x => grt x.2
def grtGI (l : List (Value × Grp)) : Int := if grtG l then 0 else 1
theorem grtG_true {l : List (Value × Grp)} (h : grtG l = true) : l.length ≤ 20 ∧ ∀ x ∈ l, grt x.2 = true := by
  unfold grtG at h
  rw [Bool.and_eq_true, List.all_eq_true] at h
  exact ⟨of_decide_eq_true h.1, h.2⟩
/-- The groups that may be, by numbers. -/
def mayV (num : Nat) : List (Value × Grp) → List (Value × Grp)
  | [] => []
  | x :: l => if segOk num x.2 then x :: mayV (num + 1) l else mayV num l
theorem mayV_snoc (num : Nat) (l : List (Value × Grp)) (x : Value × Grp) : mayV num (l ++ [x]) = mayV num l ++ if segOk (num + (mayV num l).length) x.2 then [x] else [] := by
  induction l generalizing num with
  | nil => cases h : segOk num x.2 <;> simp [mayV, h]
  | cons y l ih =>
    rw [List.cons_append, mayV, mayV]
    split
    · rw [ih, List.cons_append, List.length_cons, show num + 1 + (mayV (num + 1) l).length = num + ((mayV (num + 1) l).length + 1) by omega]
    · exact ih num
theorem mayV_ok (num : Nat) (l : List (Value × Grp)) : allOk num ((mayV num l).map (·.2)) := by
  induction l generalizing num with
  | nil => trivial
  | cons y l ih =>
    rw [mayV]
    split
    · rename_i h; exact ⟨h, ih (num + 1)⟩
    · exact ih num
theorem mayV_len (num : Nat) (l : List (Value × Grp)) : (mayV num l).length ≤ l.length := by
  induction l generalizing num with
  | nil => exact Nat.le_refl _
  | cons y l ih =>
    rw [mayV]
    split
    · have := ih (num + 1); simp; omega
    · have := ih num; simp; omega
theorem mayV_mem (num : Nat) (l : List (Value × Grp)) : ∀ x ∈ mayV num l, x ∈ l := by
  induction l generalizing num with
  | nil => intro x hx; cases hx
  | cons y l ih =>
    intro x hx
    rw [mayV] at hx
    split at hx
    · rcases List.mem_cons.1 hx with rfl | hx
      · exact List.mem_cons_self ..
      · exact List.mem_cons_of_mem _ (ih _ x hx)
    · exact List.mem_cons_of_mem _ (ih _ x hx)
theorem encG_len {num : Nat} {gs : List Grp} (h : allOk num gs) : (encG num gs).length ≤ 1500000 * gs.length := by
  induction gs generalizing num with
  | nil => simp [encG]
  | cons g gs ih =>
    have h1 := (segOk_iff.1 h.1).2.2.2.2
    have h2 := ih h.2
    rw [encG, List.length_append, List.length_cons]
    omega
theorem encG_snoc (num : Nat) (gs : List Grp) (g : Grp) : encG num (gs ++ [g]) = encG num gs ++ encL (segL (num + gs.length) g) := by rw [encG_app]; simp [encG]
theorem St.dropL' {w W : World} {Fs : List (World → Prop)} : ∀ (M : List Res), St w W M Fs → St w W [] Fs
  | [], h => h
  | _ :: M, h => St.dropL' M (h.sub 0)
theorem St.bare {w W : World} {L : List Res} {Fs : List (World → Prop)} (h : St w W L Fs) : St w W [] Fs := h.dropL' L
theorem Row.some' {v : Value} {E : TypeId} {s n : Nat} {l : List Value} {W : World} (h : (Row v E s n l).ok W) (hn : 0 < n) : ∃ g c, v = .slice (some ⟨g, 0, none⟩) n c := by
  rcases h.2 with ⟨rfl, e⟩ | ⟨g, cap, cur, rfl, _⟩
  · omega
  · exact ⟨g, cap, rfl⟩
theorem region_join5 {α β γ δ ε : Type} {P : Program} {c : Code} {Q : Exit → Act → World → Prop} {a : Act} {w : World} {S : α → β → γ → δ → ε → World → Prop} {mk : α → β → γ → δ → ε → Act} (hreg : c.wp P (fun e a' w' => e = .normal ∧ ∃ b d x y z, a' = mk b d x y z ∧ S b d x y z w') a w) (hK : ∀ b d x y z V, S b d x y z V → Q .normal (mk b d x y z) V) : c.wp P Q a w :=
  Code.wp_mono (fun e a' w' h => by obtain ⟨rfl, b, d, x, y, z, rfl, hS⟩ := h; exact hK b d x y z _ hS) hreg
set_option maxHeartbeats 1000000 in
set_option maxRecDepth 100000 in
theorem great9 (u : Value) (l : List (Value × Grp)) (w : World) (hu : GSv w u l) : Calls Try.prog 9 #[u] w fun e w' => e = .returned (.int .i64 (grtGI l)) ∧ w = w' := by
  have HU2 := Lib.hid hu
  obtain ⟨A, c, rfl, hlc⟩ := hu.shape
  clear hu
  by_cases h20 : l.length ≤ 20
  · have j0 : ¬ (20 : Int) < (l.length : Int) := by omega
    go_enter Try.func9, Try.ntmps9
    go_wp2_with fail
    go_loopw [3] (fun s3 wr => ∃ i : Nat, i ≤ l.length ∧ s3 = .int .i64 (i : Int) ∧ (∀ x ∈ l.take i, grt x.2 = true) ∧ w = wr) (fun s3 _ => l.length - (intOf s3).toNat)
    case atStart => exact ⟨0, by omega, rfl, fun x hx => by simp at hx, rfl⟩
    case round =>
      obtain ⟨i, hi, rfl, hall, rfl⟩ := hrel
      have HALL := Lib.hid hall
      clear hall
      by_cases hlt : i < l.length
      · obtain ⟨bb, o, rfl, c1, hr⟩ := HU2.out.get hlt
        have hli : l[i]? = some l[i] := List.getElem?_eq_getElem hlt
        generalize l[i] = x at *
        obtain ⟨xv, g⟩ := x
        dsimp only at c1 hr
        have HLI := Lib.hid hli; have C1 := Lib.hid c1; have HR := Lib.hid hr
        have j1 : (i : Int) < (l.length : Int) := by omega
        clear hli c1 hr
        cases hg : grt g with
        | true =>
          have hgi : grtI g = 0 := by unfold grtI; rw [hg]; rfl
          have HG := Lib.hid hg; have HGI := Lib.hid hgi
          clear hg hgi
          go_wp2_with (first
            | (refine wl (by rfl) (wp_of_run (run_ld (by kernel_rfl) (by rfl) (by rfl) C1.out) ?_))
            | (go_at_call 19; refine (great18 xv g _ HR.out).mono ?_; rintro e Wn ⟨rfl, rfl⟩; rw [HGI.out]))
          refine ⟨⟨i + 1, by omega, by push_cast; rfl, fun y hy => ?_, by trivial⟩, by simp [intOf]; omega⟩
          rw [take_snoc l i _ HLI.out] at hy
          rcases List.mem_append.1 hy with hy | hy
          · exact HALL.out y hy
          · simp at hy; subst hy; exact HG.out
        | false =>
          have hgi : grtI g = 1 := by unfold grtI; rw [hg]; rfl
          have HG := Lib.hid hg; have HGI := Lib.hid hgi
          clear hg hgi
          go_wp2_with (first
            | (refine wl (by rfl) (wp_of_run (run_ld (by kernel_rfl) (by rfl) (by rfl) C1.out) ?_))
            | (go_at_call 19; refine (great18 xv g _ HR.out).mono ?_; rintro e Wn ⟨rfl, rfl⟩; rw [HGI.out]))
          go_ret
          have hgg : grtG l = false := by
            unfold grtG
            rw [Bool.and_eq_false_iff]
            refine .inr ?_
            rw [List.all_eq_false]
            exact ⟨_, List.mem_of_getElem? HLI.out, by dsimp only; rw [HG.out]; simp⟩
          exact ⟨by unfold grtGI; rw [hgg]; rfl, rfl⟩
      · have j1 : ¬ (i : Int) < (l.length : Int) := by omega
        go_wp2_with fail
        go_ret
        have hgg : grtG l = true := by
          unfold grtG
          rw [Bool.and_eq_true, List.all_eq_true]
          refine ⟨decide_eq_true h20, fun x hx => HALL.out x ?_⟩
          rw [List.take_of_length_le (by omega)]; exact hx
        exact ⟨by unfold grtGI; rw [hgg]; rfl, rfl⟩
  · have j0 : (20 : Int) < (l.length : Int) := by omega
    have hg : grtG l = false := by unfold grtG; rw [decide_eq_false h20]; rfl
    have HG := Lib.hid hg
    clear hg
    go_enter Try.func9, Try.ntmps9
    go_wp2_with fail
    go_ret
    exact ⟨by unfold grtGI; rw [HG.out]; rfl, rfl⟩
set_option maxHeartbeats 1000000 in
set_option maxRecDepth 100000 in
theorem same12 (u v : Value) (l m : List (Value × Grp)) (w : World) (hu : GSv w u l) (hv : GSv w v m) (hl : ∀ x ∈ l, x.2.length ≤ 1000000) (hm : ∀ x ∈ m, x.2.length ≤ 1000000) (hl1 : l.length ≤ 1000000) (hm1 : m.length ≤ 1000000) :
    Calls Try.prog 12 #[u, v] w fun e w' => e = .returned (.bool (decide (l.map (·.2) = m.map (·.2)))) ∧ Below w.heap.size w w' := by
  have HU := Lib.hid hu; have HV := Lib.hid hv
  obtain ⟨A, c, rfl, hlc⟩ := hu.shape
  obtain ⟨B, d, rfl, hmc⟩ := hv.shape
  have HL := Lib.hid hl; have HM := Lib.hid hm
  clear hu hv hl hm
  by_cases hlen : l.length = m.length
  · have HLEN := Lib.hid hlen
    have k1 : (l.length : Int) = (m.length : Int) := by omega
    go_enter Try.func12, Try.ntmps12
    go_wp2_with fail
    go_loopw [5] (fun s5 wr => ∃ i : Nat, i ≤ l.length ∧ s5 = .int .i64 (i : Int) ∧ (∀ j, j < i → (l.map (·.2))[j]? = (m.map (·.2))[j]?) ∧ Below w.heap.size w wr) (fun s5 _ => l.length - (intOf s5).toNat)
    case atStart => exact ⟨0, by omega, rfl, fun j hj => by omega, Below.refl _ _⟩
    case round =>
      obtain ⟨i, hi, rfl, hall, hb⟩ := hrel
      have HALL := Lib.hid hall; have HB := Lib.hid hb
      have hlm : i < l.length → i < m.length := fun h => by omega
      clear hall hlen k1
      by_cases hlt : i < l.length
      · have hlm' := hlm hlt
        have hgu := HU.out.below hb
        have hgv := HV.out.below hb
        obtain ⟨ba, oa, rfl, c1, r1⟩ := hgu.get hlt
        obtain ⟨bb, ob, rfl, c2, r2⟩ := hgv.get hlm'
        have hli : l[i]? = some l[i] := List.getElem?_eq_getElem hlt
        have hmi : m[i]? = some (m[i]'hlm') := List.getElem?_eq_getElem hlm'
        generalize l[i] = x at *
        generalize m[i]'hlm' = y at *
        obtain ⟨xv, g⟩ := x
        obtain ⟨yv, g'⟩ := y
        dsimp only at c1 c2 r1 r2
        have HLI := Lib.hid hli; have HMI := Lib.hid hmi
        have HS := Lib.hid ((((St.start wr).addF (F := fun V => V.cell? ⟨ba, oa + i, none⟩ = some xv) (fun V hs => hs.cell (fun ⟨r, hr, _⟩ => by cases hr) c1)).addF (F := fun V => V.cell? ⟨bb, ob + i, none⟩ = some yv) (fun V hs => hs.cell (fun ⟨r, hr, _⟩ => by cases hr) c2)).addF r1.away0 |>.addF r2.away0)
        clear hli hmi c1 c2 r1 r2 hb hgu hgv
        have j1 : (i : Int) < (l.length : Int) := by omega
        have j2 : (i : Int) < (m.length : Int) := by omega
        have hdd : ∃ dd, decide (g = g') = dd := ⟨_, rfl⟩
        obtain ⟨dd, hdd⟩ := hdd
        have HDD := Lib.hid hdd
        clear hdd
        go_wp2_with fail
        refine wp_region_pi [(0, true), (1, true), (2, true), (3, true), (4, true), (5, true), (6, true), (7, true), (8, false), (9, true)] (by kernel_rfl) (by kernel_rfl) rfl (by kernel_rfl) (fun _ _ _ _ _ h => h) (fun w' => St wr w' [] [fun W => RS W yv g', fun W => RS W xv g, fun V => V.cell? ⟨bb, ob + i, none⟩ = some yv, fun V => V.cell? ⟨ba, oa + i, none⟩ = some xv]) HS.out.drew ?_
        intro OPS hops
        have hS := HS.out.drew
        clear HS; have HS := Lib.hid hS; clear hS
        iterate 8
          first | (refine wpPi_yield _ (by rw [hops.out]; simp only [List.getElem?_toArray, List.getElem?_cons_succ, List.getElem?_cons_zero]; rfl) (by first | rfl | (rw [hops.out]; rfl)) (fun w' hS => by first | exact run_ld (by kernel_rfl) (by rfl) (by rfl) (hS.fact (i := 3) rfl) | exact run_ld (by kernel_rfl) (by rfl) (by rfl) (hS.fact (i := 2) rfl) | (go_simp; rfl)) ?_; simp only [Act.put, List.setIfInBounds_toArray, List.set_cons_succ, List.set_cons_zero]) | (refine wpPi_skip (by rw [hops.out]; simp only [List.getElem?_toArray, List.getElem?_cons_succ, List.getElem?_cons_zero]; rfl) (by first | rfl | (rw [hops.out]; rfl)) ?_; simp only [Act.put, List.setIfInBounds_toArray, List.set_cons_succ, List.set_cons_zero])
        refine wpPi_act (by rw [hops.out]; simp only [List.getElem?_toArray, List.getElem?_cons_succ, List.getElem?_cons_zero]; rfl) (by first | rfl | (rw [hops.out]; rfl)) ?_
        go_simp
        refine (rsame16 xv yv g g' _ (HS.out.fact (i := 1) rfl) (HS.out.fact (i := 0) rfl) (HL.out _ (List.mem_of_getElem? HLI.out)) (HM.out _ (List.mem_of_getElem? HMI.out))).mono ?_
        rintro e Wn ⟨rfl, hb⟩
        rw [HDD.out]
        have hS := HS.out.call hb
        clear HS; have HS := Lib.hid hS; clear hS
        clear hb
        refine ⟨HS.out, ?_⟩
        try simp only [Act.put, List.setIfInBounds_toArray, List.set_cons_succ, List.set_cons_zero]
        iterate 1
          first | (refine wpPi_yield _ (by rw [hops.out]; simp only [List.getElem?_toArray, List.getElem?_cons_succ, List.getElem?_cons_zero]; rfl) (by first | rfl | (rw [hops.out]; rfl)) (fun w' hS => by first | exact run_ld (by kernel_rfl) (by rfl) (by rfl) (hS.fact (i := 3) rfl) | exact run_ld (by kernel_rfl) (by rfl) (by rfl) (hS.fact (i := 2) rfl) | (go_simp; rfl)) ?_; simp only [Act.put, List.setIfInBounds_toArray, List.set_cons_succ, List.set_cons_zero]) | (refine wpPi_skip (by rw [hops.out]; simp only [List.getElem?_toArray, List.getElem?_cons_succ, List.getElem?_cons_zero]; rfl) (by first | rfl | (rw [hops.out]; rfl)) ?_; simp only [Act.put, List.setIfInBounds_toArray, List.set_cons_succ, List.set_cons_zero])
        simp only [wpPi]
        clear OPS hops
        cases dd with
        | true =>
          go_wp2_with fail
          refine ⟨⟨i + 1, by omega, by push_cast; rfl, fun j hj => ?_, HB.out.trans (HS.out.below.mono HB.out.size)⟩, by simp [intOf]; omega⟩
          by_cases hji : j < i
          · exact HALL.out j hji
          · obtain rfl : j = i := by omega
            rw [List.getElem?_map, List.getElem?_map, HLI.out, HMI.out]
            have := of_decide_eq_true HDD.out
            simp [this]
        | false =>
          have hne : decide (l.map (·.2) = m.map (·.2)) = false := decide_eq_false (fun e => by
            have h1 : (l.map (·.2))[i]? = some g := by rw [List.getElem?_map, HLI.out]; rfl
            rw [e, List.getElem?_map, HMI.out] at h1
            injection h1 with h1
            exact of_decide_eq_false HDD.out h1.symm)
          have HNE := Lib.hid hne
          clear hne
          go_wp2_with fail
          go_ret
          exact ⟨by rw [HNE.out]; rfl, HB.out.trans (HS.out.below.mono HB.out.size)⟩
      · have heq : decide (l.map (·.2) = m.map (·.2)) = true := decide_eq_true (List.ext_getElem? fun j => by
          by_cases hj : j < i
          · exact HALL.out j hj
          · rw [List.getElem?_eq_none (by rw [List.length_map]; omega), List.getElem?_eq_none (by have := HLEN.out; rw [List.length_map]; omega)])
        have HEQ := Lib.hid heq
        clear heq
        go_wp2_with fail
        go_ret
        exact ⟨by rw [HEQ.out]; rfl, HB.out⟩
  · have hne : decide (l.map (·.2) = m.map (·.2)) = false := decide_eq_false (fun e => hlen (by have := congrArg List.length e; simpa using this))
    rw [hne]
    have k1 : ¬ (l.length : Int) = (m.length : Int) := by omega
    clear hne hlen
    go_enter Try.func12, Try.ntmps12
    go_wp2_with fail
    go_ret
    exact ⟨rfl, Below.refl _ _⟩
end
section
open Go Go.RowKit Go.Proofs
attribute [local irreducible] Calls

theorem GSv.rs_mem {W : World} {v : Value} {l : List (Value × Grp)} (h : GSv W v l) : ∀ x ∈ l, RS W x.1 x.2 := by
  intro x hx
  obtain ⟨i, hi, rfl⟩ := List.mem_iff_getElem.1 hx
  obtain ⟨A, c, rfl, _⟩ := h.shape
  obtain ⟨_, _, _, _, hr⟩ := h.get hi
  exact hr
theorem GSv.cell {W : World} {b o n c i : Nat} {l : List (Value × Grp)} {x : Value × Grp} (h : GSv W (.slice (some ⟨b, o, none⟩) n c) l) (hx : l[i]? = some x) : W.cell? ⟨b, o + i, none⟩ = some x.1 := by
  obtain ⟨hi, rfl⟩ := List.getElem?_eq_some_iff.1 hx
  obtain ⟨b', o', e, h1, _⟩ := h.get hi
  injection e with e
  injection e with e1 e2
  subst e1 e2
  exact h1
theorem seg13_yes (num : Nat) (u : Value) (l : Grp) (w : World) (hn : num < 18446744073709551616) (hu : RS w u l) (hl : l.length ≤ 100000) (hok : segOk num l = true) :
    Calls Try.prog 13 #[.int .u64 (num : Int), u] w fun e w' => ∃ g c, e = .returned (.tuple #[.slice (some ⟨g, 0, none⟩) (encL (segL num l)).length c, .int .i64 0]) ∧ New w w' (Row (.slice (some ⟨g, 0, none⟩) (encL (segL num l)).length c) 5 1 (encL (segL num l)).length (bs (encL (segL num l)))) := by
  refine (seg13 num u l w hn hu hl).mono ?_
  rintro e w' ⟨v', rfl, hb⟩
  have hE : segE num l = 0 := by unfold segE; rw [hok]; rfl
  have hO : segO num l = encL (segL num l) := by unfold segO; rw [hok]; rfl
  rw [hO] at hb
  obtain ⟨g, c, rfl⟩ := Row.some' hb.2.1 (encL_segL_pos num l)
  exact ⟨g, c, by rw [hE], hb⟩
theorem seg13_no (num : Nat) (u : Value) (l : Grp) (w : World) (hn : num < 18446744073709551616) (hu : RS w u l) (hl : l.length ≤ 100000) (hok : segOk num l = false) :
    Calls Try.prog 13 #[.int .u64 (num : Int), u] w fun e w' => ∃ v', e = .returned (.tuple #[v', .int .i64 170]) ∧ Below w.heap.size w w' := by
  refine (seg13 num u l w hn hu hl).mono ?_
  rintro e w' ⟨v', rfl, hb⟩
  have hE : segE num l = 170 := by unfold segE; rw [hok]; rfl
  exact ⟨v', by rw [hE], hb.1⟩
theorem mayV_take (num : Nat) {l : List (Value × Grp)} {i : Nat} {x : Value × Grp} (hx : l[i]? = some x) : mayV num (l.take (i + 1)) = mayV num (l.take i) ++ if segOk (num + (mayV num (l.take i)).length) x.2 then [x] else [] := by
  rw [take_snoc l i x hx, mayV_snoc]
set_option maxHeartbeats 2000000 in
set_option maxRecDepth 100000 in
theorem written10 (num : Nat) (u : Value) (l : List (Value × Grp)) (w : World) (hn : num + 20 < 18446744073709551616) (hu : GSv w u l) (hl : l.length ≤ 20) (hl2 : ∀ x ∈ l, x.2.length ≤ 100000) :
    Calls Try.prog 10 #[.int .u64 (num : Int), u] w fun e w' => ∃ A c B d, e = .returned (.tuple #[.slice A (encG num ((mayV num l).map (·.2))).length c, .slice B (mayV num l).length d]) ∧ St w w' [Row (.slice A (encG num ((mayV num l).map (·.2))).length c) 5 1 (encG num ((mayV num l).map (·.2))).length (bs (encG num ((mayV num l).map (·.2)))), Row (.slice B (mayV num l).length d) 37 1 (mayV num l).length ((mayV num l).map (·.1))] [fun V => GSv V u l] := by
  obtain ⟨A, c, rfl, hlc⟩ := hu.shape
  have HS := Lib.hid ((((St.start w).addF hu.away0).new (Below.refl _ _) (r := Row (.slice none 0 0) 37 1 0 []) (World.ownsRow_nil _ _ _ _) (fun k hk => by simp [Row, Value.ownBlock] at hk)).new (Below.refl _ _) (r := Row (.slice none 0 0) 5 1 0 []) (World.ownsRow_nil _ _ _ _) (fun k hk => by simp [Row, Value.ownBlock] at hk))
  have HL2 := Lib.hid hl2
  clear hu hl2
  go_enter Try.func10, Try.ntmps10
  go_wp2_with fail
  go_loopw [6, 7, 13] (fun s6 s7 s13 wr => ∃ (i : Nat) (A6 : Option Addr) (c6 : Nat) (A7 : Option Addr) (c7 : Nat), i ≤ l.length ∧ s13 = .int .i64 (i : Int) ∧ s6 = .slice A6 (encG num ((mayV num (l.take i)).map (·.2))).length c6 ∧ s7 = .slice A7 (mayV num (l.take i)).length c7 ∧ St w wr [Row (.slice A6 (encG num ((mayV num (l.take i)).map (·.2))).length c6) 5 1 (encG num ((mayV num (l.take i)).map (·.2))).length (bs (encG num ((mayV num (l.take i)).map (·.2)))), Row (.slice A7 (mayV num (l.take i)).length c7) 37 1 (mayV num (l.take i)).length ((mayV num (l.take i)).map (·.1))] [fun V => GSv V (.slice A l.length c) l]) (fun _ _ s13 _ => l.length - (intOf s13).toNat)
  case atStart => exact ⟨0, none, 0, none, 0, by omega, rfl, rfl, rfl, HS.out⟩
  case round =>
    obtain ⟨i, A6, c6, A7, c7, hi, rfl, rfl, rfl, hs⟩ := hrel
    clear HS
    by_cases hlt : i < l.length
    · have hli : l[i]? = some l[i] := List.getElem?_eq_getElem hlt
      obtain ⟨bb, o, rfl, _, _⟩ := (hs.fact (F := fun V => GSv V (.slice A l.length c) l) (i := 0) rfl).get hlt
      generalize l[i] = x at hli
      obtain ⟨xv, g⟩ := x
      obtain ⟨Ax, cx, exv, _⟩ := ((hs.fact (F := fun V => GSv V (.slice (some ⟨bb, o, none⟩) l.length c) l) (i := 0) rfl).rs_mem _ (List.mem_of_getElem? hli)).shape
      dsimp only at exv
      subst exv
      have hs1 := hs.more 0 rfl (fun V (h : GSv V (.slice (some ⟨bb, o, none⟩) l.length c) l) => h.rs_mem _ (List.mem_of_getElem? hli))
      have hs2 := hs1.more 1 rfl (fun V (h : GSv V (.slice (some ⟨bb, o, none⟩) l.length c) l) => h.cell hli)
      dsimp only at hs2
      have hg5 : g.length ≤ 100000 := HL2.out _ (List.mem_of_getElem? hli)
      have hz20 : (mayV num (l.take i)).length ≤ 20 := Nat.le_trans (mayV_len _ _) (by rw [List.length_take]; omega)
      have hzE : (encG num ((mayV num (l.take i)).map (·.2))).length ≤ 30000000 := Nat.le_trans (encG_len (mayV_ok _ _)) (by rw [List.length_map]; omega)
      have hnx := mayV_take num hli
      have HNX := Lib.hid hnx; have HG5 := Lib.hid hg5
      have HS := Lib.hid hs2
      have j1 : (i : Int) < (l.length : Int) := by omega
      clear hs hs1 hs2 hli hnx hg5
      cases hok : segOk (num + (mayV num (l.take i)).length) g with
      | true =>
        have HOK := Lib.hid hok
        have hzS : (encL (segL (num + (mayV num (l.take i)).length) g)).length ≤ 1500000 := (segOk_iff.1 hok).2.2.2.2
        clear hok
        go_wp2_with (first
          | (refine atd 25 (by rfl) ?_; refine wl (by rfl) (wp_of_run (run_ld (by kernel_rfl) (by rfl) (by rfl) (HS.out.fact (i := 0) rfl)) ?_))
          | (go_at_call 13; refine (seg13_yes (num + (mayV num (l.take i)).length) (.slice Ax g.length cx) g _ (by omega) (HS.out.fact (i := 1) rfl) HG5.out HOK.out).mono ?_; rintro e Wn ⟨g9, c9, rfl, hb⟩; have hS := HS.out.take hb; clear hb; clear HS; have HS := Lib.hid hS; clear hS))
        apply region_join5 (S := fun (b39 : Nat) (A33 : Option Addr) (c33 : Nat) (A40 : Option Addr) (c40 : Nat) V => St w V [Row (.slice (some ⟨b39, 0, none⟩) 1 1) 37 1 1 [(.slice Ax g.length cx)], Row (.slice (some ⟨g9, 0, none⟩) (encL (segL (num + (mayV num (l.take i)).length) g)).length c9) 5 1 (encL (segL (num + (mayV num (l.take i)).length) g)).length (bs (encL (segL (num + (mayV num (l.take i)).length) g))), Row (.slice A33 (encG num ((mayV num (l.take i)).map (·.2)) ++ (encL (segL (num + (mayV num (l.take i)).length) g))).length c33) 5 1 (encG num ((mayV num (l.take i)).map (·.2)) ++ (encL (segL (num + (mayV num (l.take i)).length) g))).length (bs (encG num ((mayV num (l.take i)).map (·.2)) ++ (encL (segL (num + (mayV num (l.take i)).length) g)))), Row (.slice A40 ((mayV num (l.take i)).length + 1) c40) 37 1 ((mayV num (l.take i)).length + 1) ((mayV num (l.take i)).map (·.1) ++ [(.slice Ax g.length cx)])] [fun V => V.cell? ⟨bb, o + i, none⟩ = some (.slice Ax g.length cx), fun V => RS V (.slice Ax g.length cx) g, fun V => GSv V (.slice (some ⟨bb, o, none⟩) l.length c) l])
        case hreg =>
            refine wp_region_tr (.yield 0 (.yield 1 (.yield 3 (.yield 4 (.yield 5 (.yield 6 (.yield 7 (.act 2 (.act 8 (.act 9 (.yield 10 (.yield 11 .done)) .none) .none) (.act 8 (.act 2 (.act 9 (.yield 10 (.yield 11 .done)) .none) .none) .none))))))))) (by kernel_rfl) (by kernel_rfl) (by kernel_rfl) (fun _ _ _ _ _ h => absurd h.1 (by simp)) (fun w' => St w w' [] [fun V => V.cell? ⟨bb, o + i, none⟩ = some (.slice Ax g.length cx), fun V => RS V (.slice Ax g.length cx) g, fun V => GSv V (.slice (some ⟨bb, o, none⟩) l.length c) l]) HS.out.bare.drew ?_
            intro OPS hops
            have hS := HS.out.drew
            have HS := Lib.hid hS; clear hS
            refine wpT_yield _ (by rw [hops.out]; simp only [List.getElem?_toArray, List.getElem?_cons_succ, List.getElem?_cons_zero]; rfl) (by first | rfl | (rw [hops.out]; rfl)) (fun w' hS => by first | exact run_ld (by kernel_rfl) (by rfl) (by rfl) (hS.fact (i := 0) rfl) | (go_simp; rfl)) ?_
            simp only [Act.put, List.setIfInBounds_toArray, List.set_cons_succ, List.set_cons_zero]
            refine wpT_yield _ (by rw [hops.out]; simp only [List.getElem?_toArray, List.getElem?_cons_succ, List.getElem?_cons_zero]; rfl) (by first | rfl | (rw [hops.out]; rfl)) (fun w' hS => by first | exact run_ld (by kernel_rfl) (by rfl) (by rfl) (hS.fact (i := 0) rfl) | (go_simp; rfl)) ?_
            simp only [Act.put, List.setIfInBounds_toArray, List.set_cons_succ, List.set_cons_zero]
            refine wpT_yield _ (by rw [hops.out]; simp only [List.getElem?_toArray, List.getElem?_cons_succ, List.getElem?_cons_zero]; rfl) (by first | rfl | (rw [hops.out]; rfl)) (fun w' hS => by first | exact run_ld (by kernel_rfl) (by rfl) (by rfl) (hS.fact (i := 0) rfl) | (go_simp; rfl)) ?_
            simp only [Act.put, List.setIfInBounds_toArray, List.set_cons_succ, List.set_cons_zero]
            refine wpT_yield _ (by rw [hops.out]; simp only [List.getElem?_toArray, List.getElem?_cons_succ, List.getElem?_cons_zero]; rfl) (by first | rfl | (rw [hops.out]; rfl)) (fun w' hS => by first | exact run_ld (by kernel_rfl) (by rfl) (by rfl) (hS.fact (i := 0) rfl) | (go_simp; rfl)) ?_
            simp only [Act.put, List.setIfInBounds_toArray, List.set_cons_succ, List.set_cons_zero]
            refine wpT_yield _ (by rw [hops.out]; simp only [List.getElem?_toArray, List.getElem?_cons_succ, List.getElem?_cons_zero]; rfl) (by first | rfl | (rw [hops.out]; rfl)) (fun w' hS => by first | exact run_ld (by kernel_rfl) (by rfl) (by rfl) (hS.fact (i := 0) rfl) | (go_simp; rfl)) ?_
            simp only [Act.put, List.setIfInBounds_toArray, List.set_cons_succ, List.set_cons_zero]
            refine wpT_yield _ (by rw [hops.out]; simp only [List.getElem?_toArray, List.getElem?_cons_succ, List.getElem?_cons_zero]; rfl) (by first | rfl | (rw [hops.out]; rfl)) (fun w' hS => by first | exact run_ld (by kernel_rfl) (by rfl) (by rfl) (hS.fact (i := 0) rfl) | (go_simp; rfl)) ?_
            simp only [Act.put, List.setIfInBounds_toArray, List.set_cons_succ, List.set_cons_zero]
            refine wpT_yield _ (by rw [hops.out]; simp only [List.getElem?_toArray, List.getElem?_cons_succ, List.getElem?_cons_zero]; rfl) (by first | rfl | (rw [hops.out]; rfl)) (fun w' hS => by first | exact run_ld (by kernel_rfl) (by rfl) (by rfl) (hS.fact (i := 0) rfl) | (go_simp; rfl)) ?_
            simp only [Act.put, List.setIfInBounds_toArray, List.set_cons_succ, List.set_cons_zero]
            refine wpT_act (by rw [hops.out]; simp only [List.getElem?_toArray, List.getElem?_cons_succ, List.getElem?_cons_zero]; rfl) (by first | rfl | (rw [hops.out]; rfl)) ?_ ?_
            · first | refine s_app HS.out 1 (E := 5) (xs := encG num ((mayV num (l.take i)).map (·.2))) (ys := (encL (segL (num + (mayV num (l.take i)).length) g))) (by rfl) Try.underlying28 (by kernel_rfl) (by rfl) (by rfl) (by rfl) (Row.hb (HS.out.res (i := 0) rfl)) (by omega) ?_ | refine s_app HS.out 2 (E := 5) (xs := encG num ((mayV num (l.take i)).map (·.2))) (ys := (encL (segL (num + (mayV num (l.take i)).length) g))) (by rfl) Try.underlying28 (by kernel_rfl) (by rfl) (by rfl) (by rfl) (Row.hb (HS.out.res (i := 1) rfl)) (by omega) ?_
              intro v33 Wn hS
              first | (obtain ⟨A33, c33, rfl⟩ := Row.sl (hS.res (i := 1) rfl)) | (obtain ⟨A33, c33, rfl⟩ := Row.sl (hS.res (i := 2) rfl))
              have HS := Lib.hid hS; clear hS
              refine ⟨HS.out.bare, ?_⟩
              try simp only [Act.put, List.setIfInBounds_toArray, List.set_cons_succ, List.set_cons_zero]
              refine wpT_act (by rw [hops.out]; simp only [List.getElem?_toArray, List.getElem?_cons_succ, List.getElem?_cons_zero]; rfl) (by first | rfl | (rw [hops.out]; rfl)) ?_ trivial
              refine s_bs (E := 37) (z := .slice none 0 0) HS.out 1 1 [(.slice Ax g.length cx)] (by rfl) Try.underlying22 (by kernel_rfl) (by rfl) (by decide) (by decide) (by kernel_rfl) (by rfl) (by decide) ?_
              intro b39 Wn hS
              have HS := Lib.hid hS; clear hS
              refine ⟨HS.out.bare, ?_⟩
              try simp only [Act.put, List.setIfInBounds_toArray, List.set_cons_succ, List.set_cons_zero]
              refine wpT_act (by rw [hops.out]; simp only [List.getElem?_toArray, List.getElem?_cons_succ, List.getElem?_cons_zero]; rfl) (by first | rfl | (rw [hops.out]; rfl)) ?_ trivial
              refine s_rows (size := 1) (z := .slice none 0 0) (bytes := 24) HS.out 3 0 (by rfl) Try.underlying22 (by kernel_rfl) (by rfl) (by decide) (by rfl) (by rfl) (by rfl) (by rfl) (by intro v hv; simp at hv; subst hv; rfl) (by omega) (by omega) ?_
              intro v40 Wn hS
              obtain ⟨A40, c40, rfl⟩ := Row.sl (hS.res (i := 3) rfl)
              have HS := Lib.hid hS; clear hS
              refine ⟨HS.out.bare, ?_⟩
              try simp only [Act.put, List.setIfInBounds_toArray, List.set_cons_succ, List.set_cons_zero]
              refine wpT_yield _ (by rw [hops.out]; simp only [List.getElem?_toArray, List.getElem?_cons_succ, List.getElem?_cons_zero]; rfl) (by first | rfl | (rw [hops.out]; rfl)) (fun w' hS => by first | exact run_ld (by kernel_rfl) (by rfl) (by rfl) (hS.fact (i := 0) rfl) | (go_simp; rfl)) ?_
              simp only [Act.put, List.setIfInBounds_toArray, List.set_cons_succ, List.set_cons_zero]
              refine wpT_yield _ (by rw [hops.out]; simp only [List.getElem?_toArray, List.getElem?_cons_succ, List.getElem?_cons_zero]; rfl) (by first | rfl | (rw [hops.out]; rfl)) (fun w' hS => by first | exact run_ld (by kernel_rfl) (by rfl) (by rfl) (hS.fact (i := 0) rfl) | (go_simp; rfl)) ?_
              simp only [Act.put, List.setIfInBounds_toArray, List.set_cons_succ, List.set_cons_zero]
              exact ⟨rfl, b39, A33, c33, A40, c40, rfl, HS.out⟩
            refine wpT_act (by rw [hops.out]; simp only [List.getElem?_toArray, List.getElem?_cons_succ, List.getElem?_cons_zero]; rfl) (by first | rfl | (rw [hops.out]; rfl)) ?_ ?_
            · refine s_bs (E := 37) (z := .slice none 0 0) HS.out 1 1 [(.slice Ax g.length cx)] (by rfl) Try.underlying22 (by kernel_rfl) (by rfl) (by decide) (by decide) (by kernel_rfl) (by rfl) (by decide) ?_
              intro b39 Wn hS
              have HS := Lib.hid hS; clear hS
              refine ⟨HS.out.bare, ?_⟩
              try simp only [Act.put, List.setIfInBounds_toArray, List.set_cons_succ, List.set_cons_zero]
              refine wpT_act (by rw [hops.out]; simp only [List.getElem?_toArray, List.getElem?_cons_succ, List.getElem?_cons_zero]; rfl) (by first | rfl | (rw [hops.out]; rfl)) ?_ trivial
              first | refine s_app HS.out 1 (E := 5) (xs := encG num ((mayV num (l.take i)).map (·.2))) (ys := (encL (segL (num + (mayV num (l.take i)).length) g))) (by rfl) Try.underlying28 (by kernel_rfl) (by rfl) (by rfl) (by rfl) (Row.hb (HS.out.res (i := 0) rfl)) (by omega) ?_ | refine s_app HS.out 2 (E := 5) (xs := encG num ((mayV num (l.take i)).map (·.2))) (ys := (encL (segL (num + (mayV num (l.take i)).length) g))) (by rfl) Try.underlying28 (by kernel_rfl) (by rfl) (by rfl) (by rfl) (Row.hb (HS.out.res (i := 1) rfl)) (by omega) ?_
              intro v33 Wn hS
              first | (obtain ⟨A33, c33, rfl⟩ := Row.sl (hS.res (i := 1) rfl)) | (obtain ⟨A33, c33, rfl⟩ := Row.sl (hS.res (i := 2) rfl))
              have HS := Lib.hid hS; clear hS
              refine ⟨HS.out.bare, ?_⟩
              try simp only [Act.put, List.setIfInBounds_toArray, List.set_cons_succ, List.set_cons_zero]
              refine wpT_act (by rw [hops.out]; simp only [List.getElem?_toArray, List.getElem?_cons_succ, List.getElem?_cons_zero]; rfl) (by first | rfl | (rw [hops.out]; rfl)) ?_ trivial
              refine s_rows (size := 1) (z := .slice none 0 0) (bytes := 24) HS.out 3 0 (by rfl) Try.underlying22 (by kernel_rfl) (by rfl) (by decide) (by rfl) (by rfl) (by rfl) (by rfl) (by intro v hv; simp at hv; subst hv; rfl) (by omega) (by omega) ?_
              intro v40 Wn hS
              obtain ⟨A40, c40, rfl⟩ := Row.sl (hS.res (i := 3) rfl)
              have HS := Lib.hid hS; clear hS
              refine ⟨HS.out.bare, ?_⟩
              try simp only [Act.put, List.setIfInBounds_toArray, List.set_cons_succ, List.set_cons_zero]
              refine wpT_yield _ (by rw [hops.out]; simp only [List.getElem?_toArray, List.getElem?_cons_succ, List.getElem?_cons_zero]; rfl) (by first | rfl | (rw [hops.out]; rfl)) (fun w' hS => by first | exact run_ld (by kernel_rfl) (by rfl) (by rfl) (hS.fact (i := 0) rfl) | (go_simp; rfl)) ?_
              simp only [Act.put, List.setIfInBounds_toArray, List.set_cons_succ, List.set_cons_zero]
              refine wpT_yield _ (by rw [hops.out]; simp only [List.getElem?_toArray, List.getElem?_cons_succ, List.getElem?_cons_zero]; rfl) (by first | rfl | (rw [hops.out]; rfl)) (fun w' hS => by first | exact run_ld (by kernel_rfl) (by rfl) (by rfl) (hS.fact (i := 0) rfl) | (go_simp; rfl)) ?_
              simp only [Act.put, List.setIfInBounds_toArray, List.set_cons_succ, List.set_cons_zero]
              exact ⟨rfl, b39, A33, c33, A40, c40, rfl, HS.out⟩
            exact trivial
        case hK =>
          intro b39 A33 c33 A40 c40 Wn hS
          clear HS; have HS := Lib.hid hS; clear hS
          go_wp2_with fail
          refine ⟨⟨i + 1, A33, c33, A40, c40, by omega, by push_cast; rfl, ?_, ?_, ?_⟩, by simp [intOf]; omega⟩
          all_goals (rw [HNX.out, HOK.out]; simp only [if_true, List.map_append, List.map_cons, List.map_nil, encG_snoc, List.length_append, List.length_cons, List.length_nil, List.length_map])
          have h := ((HS.out.sub 0).sub 0).dropF (Gs := [fun V => GSv V (.slice (some ⟨bb, o, none⟩) l.length c) l]) (fun G hG => List.mem_cons_of_mem _ (List.mem_cons_of_mem _ hG))
          simp only [List.eraseIdx, List.length_append] at h
          exact h
      | false =>
        have HOK := Lib.hid hok
        clear hok
        go_wp2_with (first
          | (refine atd 25 (by rfl) ?_; refine wl (by rfl) (wp_of_run (run_ld (by kernel_rfl) (by rfl) (by rfl) (HS.out.fact (i := 0) rfl)) ?_))
          | (go_at_call 13; refine (seg13_no (num + (mayV num (l.take i)).length) (.slice Ax g.length cx) g _ (by omega) (HS.out.fact (i := 1) rfl) HG5.out HOK.out).mono ?_; rintro e Wn ⟨v9, rfl, hb⟩; have hS := HS.out.call hb; clear hb; clear HS; have HS := Lib.hid hS; clear hS))
        refine ⟨⟨i + 1, A6, c6, A7, c7, by omega, by push_cast; rfl, ?_, ?_, ?_⟩, by simp [intOf]; omega⟩
        all_goals (rw [HNX.out, HOK.out]; simp only [Bool.false_eq_true, if_false, List.append_nil])
        exact HS.out.dropF (fun G hG => List.mem_cons_of_mem _ (List.mem_cons_of_mem _ hG))
    · have j1 : ¬ (i : Int) < (l.length : Int) := by omega
      have hil : l.take i = l := List.take_of_length_le (by omega)
      rw [hil] at hs
      have HS := Lib.hid hs
      have HIL := Lib.hid hil
      clear hs hil
      go_wp2_with fail
      go_ret2
      rw [HIL.out]
      exact ⟨A6, c6, A7, c7, rfl, HS.out⟩
end
end Go.Proofs.Ytakeggdpnfibpaa
