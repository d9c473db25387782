/- Contracts and words that the laws stand on (SegB). -/
import Derived.Test.YtakeggdpnfibpaaSegA
import Derived.Test.YtakeggdpnfibpaaRecHb
import Derived.Test.YtakeggdpnfibpaaRecD
import Derived.Test.YtakeggdpnfibpaaRecE
set_option linter.unusedVariables false
set_option linter.unusedSimpArgs false
namespace Go.Proofs.Ytakeggdpnfibpaa
section
open Go Go.RowKit Go.Proofs
attribute [local irreducible] Calls

section
variable {P : Program} {k0 w W : World} {L : List Res} {Fs : List (World → Prop)} {o : Oper} {a : Act} {K : Act → World → Prop} {Q : Exit → Act → World → Prop} {t T : TypeId} {b k : Nat} {l cs : List Value} {x y : Operand}
theorem k_al (hS : Sk k0 w W L Fs) (ho : o.op = .alloc t) {z : Value} (hz : zeroIs P t z) (hl : z.cells = l.toArray) (h : ∀ b W', Sk k0 w W' (Blk b l t :: L) Fs → K (a.put o.dst (.pointer (some ⟨b, 0, none⟩))) W') : o.wp P a W K Q :=
  wp_of_run (run_al ho hz hl) (h _ _ ⟨hS.st.alloc l t, hS.oth.trans (KeepsOthers.alloc W _)⟩)
theorem k_sta (hS : Sk k0 w W L Fs) (i : Nat) (n : Nat) (ho : o.op = .store t x y) (hx : a.eval x = .pointer (some ⟨b, k, none⟩)) (hi : L[i]? = some (Blk b l T)) (hs : aggr P t n = true) (hy : a.eval y = .agg cs.toArray) (hn : cs.length = n) (h1 : ∀ v ∈ cs, v.oneCell' = true) (hk : k + n ≤ l.length) (h : ∀ W', Sk k0 w W' (L.set i (Blk b (splice l k cs) T)) Fs → K (a.put o.dst undef) W') : o.wp P a W K Q :=
  wp_of_skip (run_sta hs ho hx hy hn h1 (hS.st.there hi (by omega))) (h _ ⟨St.setCells cs k l W L hS.st hi (by omega), hS.oth.trans (KeepsOthers.setCells b cs k W)⟩)
theorem k_bs (hS : Sk k0 w W L Fs) {t E : TypeId} (n s : Nat) {z : Value} {parts : Array (Nat × Operand)} {vals : Array (Nat × Value)} (cs : List Value) (ho : o.op = .buildSlice t n parts) (ht : P.underlying t = some (.slice E)) (hi : ((P.info? E).map fun i => (i.size, i.zero)) = some (s, some z))
    (hv : parts.map (fun (i, x) => (i, a.eval x)) = vals) (hn : n * s ≤ 16777216) (h0 : n * s ≠ 0) (hf : Instr.fill (fun i => some (i * s, s)) ((Array.range (n * s)).map (z.cells[· % z.cells.size]!)) vals.toList = some cs.toArray) (hl : cs.length = n * s) (hm : n ≤ 1000)
    (h : ∀ b W', Sk k0 w W' (Row (.slice (some ⟨b, 0, none⟩) n n) E s n cs :: L) Fs → K (a.put o.dst (.slice (some ⟨b, 0, none⟩) n n)) W') : o.wp P a W K Q := by
  refine wp_of_run (run_bs ho ht hi hv hn h0 hf) (h _ _ ⟨?_, hS.oth.trans (KeepsOthers.alloc W _)⟩)
  refine hS.st.new ((Below.refl _ _).alloc (Nat.le_refl _) _) (r := Row (.slice (some ⟨W.heap.size, 0, none⟩) n n) E s n cs) ?_ (fun k hk => by simp [Row, Value.ownBlock] at hk; subst hk; simp)
  have := World.ownsRow_lit (base := 0) (e := E) (size := s) W cs.toArray n (Nat.zero_le _) (by simp only [maxLen]; omega) (by simpa using hl)
  have this' : (W.alloc (.cells cs.toArray E)).ownsRow 0 E s (.slice (some ⟨W.heap.size, 0, none⟩) n n) n cs := by simpa using this
  exact this'
theorem k_rows (hS : Sk k0 w W L Fs) (i j : Nat) {t E : TypeId} {s x : Operand} {v : Value} {n m c g size bytes : Nat} {xs news : List Value} {z : Value} (ho : o.op = .call { callee := .builtin .append, args := #[s, x], argTypes := #[t, t] }) (ht : P.underlying t = some (.slice E)) (hinfo : (P.info? E).map (fun i => (i.zero, i.size, i.bytes)) = some (some z, size, bytes)) (hzs : z.cells.size = size) (hsz : 0 < size)
    (hs : a.eval s = v) (hx : a.eval x = .slice (some ⟨g, 0, none⟩) m c) (hi : L[i]? = some (Row v E size n xs)) (hj : L[j]? = some (Row (.slice (some ⟨g, 0, none⟩) m c) E size m news)) (h1 : ∀ u ∈ news, u.oneCell' = true) (hl : (n + m) * bytes ≤ 140737488355328) (hl2 : n + m ≤ 140737488355328)
    (h : ∀ v' W', Nx W v v' → Sk k0 w W' (L.set i (Row v' E size (n + m) (xs ++ news))) Fs → K (a.put o.dst v') W') : o.wp P a W K Q := by
  obtain ⟨v', w', hrun, h2, h3, h4⟩ := run_rows (P := P) (ty := o.type) ht hinfo hzs hsz (hS.st.own_row hi) (hS.st.res hj) h1 hl hl2 hS.st.below.size
  exact wp_of_run (exec_app ho hs hx hrun) (h _ _ h4 ⟨hS.st.grown hi h2 h3 h4, hS.oth.trans (KeepsOthers.of_row (hS.st.own_row hi) h3)⟩)
theorem nx_ge {W : World} {v v' : Value} {B : Nat} (h : Nx W v v') (hB : B ≤ W.heap.size) (hv : ∀ k, v.ownBlock = some k → B ≤ k) : ∀ k, v'.ownBlock = some k → B ≤ k := fun k hk => by
  rcases h with h | ⟨b, h1, h2⟩
  · exact hv k (by rw [← h]; exact hk)
  · rw [h1] at hk; injection hk with hk; omega
theorem Sk.freeze (h : Sk k0 w W L Fs) {i : Nat} {r : Res} (hi : L[i]? = some r) : Sk k0 w W (L.eraseIdx i) (r.ok :: Fs) := ⟨h.st.freeze hi, h.oth⟩
end
set_option maxHeartbeats 1000000 in
set_option maxRecDepth 100000 in
theorem gather_no {k0 w0 W : World} {Gs : List (World → Prop)} {bat bl bb : Nat} {n : Int} {v : Value} {xs : List UInt8} {A : Option Addr} {m c : Nat} {cs : List Value} (hS : Sk k0 w0 W [Blk bat [.int .i64 n] 3, Blk bl [.slice A m c] 37, Row (.slice A m c) 48 2 m cs] ((fun W => HB W v xs) :: (fun W => W.heap[bb]? = some (.cells #[v] 28 (0, 0))) :: Gs)) (hl : xs.length ≤ 1000000) (hm : m ≤ 1000000) (hd : decR xs n = none) :
    Calls Try.prog 32 #[.pointer (some ⟨bb, 0, none⟩), .pointer (some ⟨bat, 0, none⟩), .pointer (some ⟨bl, 0, none⟩)] W fun e W' => e = .returned (.bool false) ∧ Sk k0 w0 W' [Blk bat [.int .i64 n] 3, Blk bl [.slice A m c] 37, Row (.slice A m c) 48 2 m cs] ((fun W => HB W v xs) :: (fun W => W.heap[bb]? = some (.cells #[v] 28 (0, 0))) :: Gs) := by
  have HS := Lib.hid hS
  have hD : ∀ V, HB V v xs → Calls Try.prog 33 #[v, .int .i64 n] V fun e w' => e = .returned (.tuple #[.agg #[.int .i64 0, .slice none 0 0], .int .i64 0, .int .i64 160]) ∧ Below V.heap.size V w' := fun V hv => by
    refine (dec12_any v xs n V hv hl).mono fun e w' hp => ?_
    unfold DecPost at hp
    rw [hd] at hp
    exact hp
  have HD := Lib.hid hD
  clear hS hD hd
  go_enter Try.func32, Try.ntmps32
  go_wp2_with (first
    | (refine atd 8 (by rfl) ?_; refine wl (by rfl) (wp_of_run (run_ld (by kernel_rfl) (by rfl) (by rfl) ((blk_cell (HS.out.st.fact (i := 1) rfl) 0).trans rfl)) ?_))
    | (refine atd 9 (by rfl) ?_; refine wl (by rfl) (s_ld HS.out.st 0 (by rfl) (by rfl) (by rfl) (by kernel_rfl) (by rfl) ?_))
    | (go_at_call 33; refine (HD.out _ (HS.out.st.fact (i := 0) rfl)).mono ?_; rintro e Wn ⟨rfl, hb⟩; have hS := HS.out.call hb; clear hb; clear HS; have HS := Lib.hid hS; clear hS)
    | (refine atd 4 (by rfl) ?_; refine wl (by rfl) (k_al HS.out (by rfl) z25 (by rfl) ?_); intro b4 Wn hS; clear HS; have HS := Lib.hid hS; clear hS)
    | (refine sto 4 (by rfl) ?_; refine wl (by rfl) (k_sta (cs := [.int .i64 0, .slice none 0 0]) HS.out 0 2 (by rfl) (by rfl) (by rfl) ag25 (by rfl) (by rfl) (by intro v hv; simp at hv; rcases hv with rfl | rfl <;> rfl) (by decide) ?_); intro Wn hS; clear HS; have HS := Lib.hid hS; clear hS))
  go_ret
  exact ⟨rfl, HS.out.sub 0⟩
set_option maxHeartbeats 1000000 in
set_option maxRecDepth 100000 in
theorem gather_yes {k0 w0 W : World} {Gs : List (World → Prop)} {bat bl bb : Nat} {n : Int} {v : Value} {xs : List UInt8} {A : Option Addr} {m c : Nat} {cs : List Value} (hS : Sk k0 w0 W [Blk bat [.int .i64 n] 3, Blk bl [.slice A m c] 37, Row (.slice A m c) 48 2 m cs] ((fun W => HB W v xs) :: (fun W => W.heap[bb]? = some (.cells #[v] 28 (0, 0))) :: Gs)) (hl : xs.length ≤ 1000000) (hm : m ≤ 1000000) (hge : ∀ q, (Value.slice A m c).ownBlock = some q → k0.heap.size ≤ q) {k : UInt8} {p : List UInt8} (hd : decR xs n = some (k, p)) :
    Calls Try.prog 32 #[.pointer (some ⟨bb, 0, none⟩), .pointer (some ⟨bat, 0, none⟩), .pointer (some ⟨bl, 0, none⟩)] W fun e W' => ∃ Ap cp A' c', e = .returned (.bool true) ∧ (∀ q, (Value.slice A' (m + 1) c').ownBlock = some q → k0.heap.size ≤ q) ∧ (∀ q, (Value.slice Ap p.length cp).ownBlock = some q → k0.heap.size ≤ q) ∧ Sk k0 w0 W' [Blk bat [.int .i64 (n + 13 + (p.length : Int))] 3, Blk bl [.slice A' (m + 1) c'] 37, Row (.slice A' (m + 1) c') 48 2 (m + 1) (cs ++ [.int .i64 (k.toNat : Int), .slice Ap p.length cp])] ((Row (.slice Ap p.length cp) 5 1 p.length (bs p)).ok :: (fun W => HB W v xs) :: (fun W => W.heap[bb]? = some (.cells #[v] 28 (0, 0))) :: Gs) := by
  have HS := Lib.hid hS
  have hD : ∀ V, HB V v xs → Calls Try.prog 33 #[v, .int .i64 n] V fun e w' => ∃ v', e = .returned (.tuple #[.agg #[.int .i64 (k.toNat : Int), v'], .int .i64 (n + 13 + (p.length : Int)), .int .i64 0]) ∧ New V w' (Row v' 5 1 p.length (bs p)) := fun V hv => by
    refine (dec12_any v xs n V hv hl).mono fun e w' hp => ?_
    unfold DecPost at hp
    rw [hd] at hp
    exact hp
  have HD := Lib.hid hD
  have HGE := Lib.hid hge
  clear hS hD hd hge
  go_enter Try.func32, Try.ntmps32
  go_wp2_with (first
    | (refine atd 8 (by rfl) ?_; refine wl (by rfl) (wp_of_run (run_ld (by kernel_rfl) (by rfl) (by rfl) ((blk_cell (HS.out.st.fact (i := 1) rfl) 0).trans rfl)) ?_))
    | (refine atd 9 (by rfl) ?_; refine wl (by rfl) (s_ld HS.out.st 0 (by rfl) (by rfl) (by rfl) (by kernel_rfl) (by rfl) ?_))
    | (go_at_call 33; refine (HD.out _ (HS.out.st.fact (i := 0) rfl)).mono ?_; rintro e Wn ⟨v1, rfl, hb⟩; have HPG := Lib.hid (show ∀ q, v1.ownBlock = some q → k0.heap.size ≤ q from fun q hq => Nat.le_trans HS.out.oth.size (hb.2.2 q (by simp [Row, hq])).1); have hS := HS.out.take hb; clear hb; obtain ⟨Ap, cp, rfl⟩ := Row.sl (hS.st.res (i := 0) rfl); replace hS := hS.freeze (i := 0) rfl; clear HS; have HS := Lib.hid hS; clear hS)
    | (refine atd 4 (by rfl) ?_; refine wl (by rfl) (k_al HS.out (by rfl) z25 (by rfl) ?_); intro b4 Wn hS; clear HS; have HS := Lib.hid hS; clear hS)
    | (refine sto 4 (by rfl) ?_; refine wl (by rfl) (k_sta (cs := [.int .i64 (k.toNat : Int), .slice Ap p.length cp]) HS.out 0 2 (by rfl) (by rfl) (by rfl) ag25 (by rfl) (by rfl) (by intro v hv; simp at hv; rcases hv with rfl | rfl <;> rfl) (by decide) ?_); intro Wn hS; clear HS; have HS := Lib.hid hS; clear hS)
    | (refine atd 16 (by rfl) ?_; refine wl (by rfl) (s_ld HS.out.st 2 (by rfl) (by rfl) (by rfl) (by kernel_rfl) (by rfl) ?_))
    | (refine atd 17 (by rfl) ?_; refine wl (by rfl) (s_lda (cs := [.int .i64 (k.toNat : Int), .slice Ap p.length cp]) HS.out.st 0 2 (by rfl) (by rfl) (by rfl) ag25 (by rfl) (by rfl) ?_))
    | (refine atd 18 (by rfl) ?_; refine wl (by rfl) (k_bs (E := 48) (z := .agg #[.int .i64 0, .slice none 0 0]) HS.out 1 2 [.int .i64 (k.toNat : Int), .slice Ap p.length cp] (by rfl) Try.underlying37 (by kernel_rfl) (by rfl) (by decide) (by decide) (by kernel_rfl) (by rfl) (by decide) ?_); intro b18 Wn hS; clear HS; have HS := Lib.hid hS; clear hS)
    | (refine atd 19 (by rfl) ?_; refine wl (by rfl) (k_rows (size := 2) (bytes := 32) (z := .agg #[.int .i64 0, .slice none 0 0]) HS.out 4 0 (by rfl) Try.underlying37 (by kernel_rfl) (by rfl) (by decide) (by rfl) (by rfl) (by rfl) (by rfl) (by intro v hv; simp at hv; rcases hv with rfl | rfl <;> rfl) (by omega) (by omega) ?_); intro v19 Wn hnx hS; have HNX := Lib.hid (nx_ge hnx HS.out.oth.size HGE.out); clear hnx; obtain ⟨A', c', rfl⟩ := Row.sl (hS.st.res (i := 4) rfl); clear HS; have HS := Lib.hid hS; clear hS)
    | (refine sto 2 (by rfl) ?_; refine wl (by rfl) (k_st (v := .slice A' (m + 1) c') HS.out 3 (by rfl) (by rfl) (by rfl) (by kernel_rfl) (by rfl) (by rfl) (by exact Nat.zero_lt_one) ?_); intro Wn hS; clear HS; have HS := Lib.hid hS; clear hS)
    | (refine sto 1 (by rfl) ?_; refine wl (by rfl) (k_st (v := .int .i64 (n + 13 + (p.length : Int))) HS.out 2 (by rfl) (by rfl) (by rfl) (by kernel_rfl) (by rfl) (by rfl) (by exact Nat.zero_lt_one) ?_); intro Wn hS; clear HS; have HS := Lib.hid hS; clear hS))
  go_ret
  exact ⟨Ap, cp, _, _, rfl, HNX.out, HPG.out, (HS.out.sub 0).sub 0⟩
end
section
open Go Go.RowKit Go.Proofs
/-! What is read of groups' bytes: all of them, the first bytes, turned bytes, another order. -/
theorem encL_segL_pos (n : Nat) (g : Grp) : 0 < (encL (segL n g)).length := by
  unfold segL
  rw [encL_app, List.length_append]
  have : 0 < (encL [mkr n g.length]).length := by rw [encL_cons, List.length_append, recB_length]; omega
  omega
theorem encG_app (num : Nat) (a b : List Grp) : encG num (a ++ b) = encG num a ++ encG (num + a.length) b := by
  induction a generalizing num with
  | nil => simp [encG]
  | cons g a ih =>
    simp only [List.cons_append, encG, ih, List.append_assoc, List.length_cons]
    rw [show num + 1 + a.length = num + (a.length + 1) by omega]
theorem allOk_app {num : Nat} {a b : List Grp} : allOk num (a ++ b) ↔ allOk num a ∧ allOk (num + a.length) b := by
  induction a generalizing num with
  | nil => simp [allOk]
  | cons g a ih =>
    simp only [List.cons_append, allOk, ih, List.length_cons]
    rw [show num + 1 + a.length = num + (a.length + 1) by omega, and_assoc]
theorem allOk_take {num : Nat} {gs : List Grp} (h : allOk num gs) (i : Nat) : allOk num (gs.take i) := by
  have e := List.take_append_drop i gs
  rw [← e] at h
  exact (allOk_app.1 h).1
theorem allOk_get {num : Nat} : ∀ {gs : List Grp}, allOk num gs → ∀ {i : Nat} {g : Grp}, gs[i]? = some g → segOk (num + i) g = true := by
  intro gs h i g hg
  obtain ⟨hi, e⟩ := List.getElem?_eq_some_iff.1 hg
  have h2 := List.take_append_drop i gs
  rw [← h2] at h
  have h3 := (allOk_app.1 h).2
  rw [List.length_take, Nat.min_eq_left (by omega), List.drop_eq_getElem_cons hi, e] at h3
  exact h3.1
/-- Records with no marker, and bytes that are none behind them, are no group. -/
theorem no_group {l g : Grp} {n : Nat} {s q : List UInt8} (hl : okL l = true) (hl2 : no255 l = true) (hg : okL g = true) (hs : decR s 0 = none) : encL l ++ s ≠ encL (segL n g) ++ q := by
  intro h
  have mem255 : ∀ t, l ≠ segL n g ++ t := fun t e => by
    unfold no255 at hl2
    rw [List.all_eq_true] at hl2
    have := hl2 (mkr n g.length) (by rw [e]; unfold segL; simp)
    have h255 : (mkr n g.length).1 = 255 := rfl
    rw [h255] at this
    exact absurd this (by decide)
  rcases recs_cmp l (segL n g) s q hl (okL_segL hg) h with ⟨t, e⟩ | ⟨t, e⟩
  · cases t with
    | nil => exact mem255 [] (by rw [List.append_nil] at e ⊢; exact e.symm)
    | cons y t =>
      rw [e, encL_app, List.append_assoc] at h
      have h2 := List.append_cancel_left h
      have hok := okL_segL (num := n) hg
      rw [e] at hok
      have hy : okL (y :: t) = true := by
        unfold okL at hok ⊢
        rw [List.all_append, Bool.and_eq_true] at hok
        exact hok.2
      obtain ⟨⟨b, hb, hp⟩, _⟩ := okL_cons hy
      obtain ⟨k, p⟩ := y
      dsimp only at hb hp
      subst hb
      rw [encL_cons, List.append_assoc] at h2
      have ek : UInt8.ofNat ((b.toNat : Int)).toNat = b := by simp
      rw [ek] at h2
      have h3 := decR_at [] (encL t ++ q) b p hp
      simp only [List.nil_append, List.length_nil] at h3
      rw [h2] at hs
      have h3' : decR (recB b p ++ (encL t ++ q)) 0 = some (b, p) := h3
      rw [hs] at h3'
      cases h3'
  · exact mem255 t e
theorem read_full {num : Nat} {gs : List Grp} (h : allOk num gs) (ht : num + gs.length ≤ 18446744073709551616) : ReadP (encG num gs) num gs (encG num gs).length :=
  ⟨rfl, h, ht, [], by simp, fun _ g q _ e => by
    have := congrArg List.length e
    have hp := encL_segL_pos (num + gs.length) g
    simp at this
    omega⟩
/-- Where groups end that are there whole. -/
def GStop (num : Nat) (gs : List Grp) (cut i : Nat) : Prop := i ≤ gs.length ∧ (encG num (gs.take i)).length ≤ cut ∧ ∀ g, gs[i]? = some g → cut < (encG num (gs.take i)).length + (encL (segL (num + i) g)).length
theorem decR_nil : decR [] 0 = none := by
  unfold decR
  rw [if_pos (.inr (.inr (by decide)))]
/-- The first bytes of a group: records with no marker, and what is none. -/
theorem cut_group {n : Nat} {g : Grp} {cut : Nat} (hg : segOk n g = true) (hc : cut < (encL (segL n g)).length) : ∃ l s, okL l = true ∧ no255 l = true ∧ (encL (segL n g)).take cut = encL l ++ s ∧ decR s 0 = none := by
  obtain ⟨_, _, h3, h4, _⟩ := segOk_iff.1 hg
  obtain ⟨i, hs⟩ := Stop.ex (segL n g) cut
  obtain ⟨post, e1, e2⟩ := cut_parts (okL_segL h4) hs (by omega)
  have hi : i ≤ g.length := by
    obtain ⟨a, b, c⟩ := hs
    unfold segL at a
    simp at a
    by_cases hh : i ≤ g.length
    · exact hh
    · exfalso
      have : i = g.length + 1 := by omega
      subst this
      have e3 : (segL n g).take (g.length + 1) = segL n g := List.take_of_length_le (by unfold segL; simp)
      rw [e3] at b
      omega
  have ht : (segL n g).take i = g.take i := by
    unfold segL
    rw [List.take_append_of_le_length hi]
  rw [ht] at e1 e2
  refine ⟨g.take i, post, okL_take' h4 i, ?_, by rw [e1]; rfl, ?_⟩
  · unfold no255 at h3 ⊢
    rw [List.all_eq_true] at h3 ⊢
    exact fun x hx => h3 x (List.mem_of_mem_take hx)
  · rw [e1] at e2
    unfold decR at e2 ⊢
    split at e2
    · rename_i hh
      rw [if_pos]
      simp at hh ⊢
      omega
    · rename_i hh
      rw [if_neg (by simp at hh ⊢; omega)]
      have e3 : ([] ++ (encL (List.take i g) ++ post)).drop ((([] : List UInt8).length + (encL (List.take i g)).length : Nat) : Int).toNat = post := by
        rw [Int.toNat_natCast, List.length_nil, Nat.zero_add, List.nil_append, List.drop_left]
      rw [e3] at e2
      exact e2
theorem GStop.ex (num : Nat) : ∀ (gs : List Grp) (cut : Nat), ∃ i, GStop num gs cut i := by
  intro gs
  induction gs generalizing num with
  | nil => intro cut; exact ⟨0, Nat.le_refl _, by simp [encG], fun x hx => by simp at hx⟩
  | cons g gs ih =>
    intro cut
    by_cases h : (encL (segL num g)).length ≤ cut
    · obtain ⟨i, h1, h2, h3⟩ := ih (num + 1) (cut - (encL (segL num g)).length)
      refine ⟨i + 1, by simp; omega, ?_, fun y hy => ?_⟩
      · rw [List.take_succ_cons, encG, List.length_append]; omega
      · rw [List.getElem?_cons_succ] at hy
        have := h3 y hy
        rw [List.take_succ_cons, encG, List.length_append, show num + (i + 1) = num + 1 + i by omega]; omega
    · exact ⟨0, by simp, by simp [encG], fun y hy => by simp at hy; subst hy; simp [encG]; omega⟩
theorem read_cut {num : Nat} {gs : List Grp} {cut i : Nat} (h : allOk num gs) (ht : num + gs.length ≤ 18446744073709551616) (hs : GStop num gs cut i) (hc : cut ≤ (encG num gs).length) : ReadP ((encG num gs).take cut) num (gs.take i) (encG num (gs.take i)).length := by
  obtain ⟨h1, h2, h3⟩ := hs
  have hl : (gs.take i).length = i := by rw [List.length_take, Nat.min_eq_left h1]
  have e0 : encG num gs = encG num (gs.take i) ++ encG (num + i) (gs.drop i) := by
    have := encG_app num (gs.take i) (gs.drop i)
    rwa [List.take_append_drop, hl] at this
  have e1 : (encG num gs).take cut = encG num (gs.take i) ++ (encG (num + i) (gs.drop i)).take (cut - (encG num (gs.take i)).length) := by
    rw [e0, List.take_append]
    congr 1
    exact List.take_of_length_le h2
  refine ⟨rfl, allOk_take h i, by rw [hl]; omega, _, e1, fun _ g q hg => ?_⟩
  rw [hl] at hg ⊢
  have hg4 := (segOk_iff.1 hg).2.2.2.1
  by_cases hi : i < gs.length
  · have hx : gs[i]? = some gs[i] := List.getElem?_eq_getElem hi
    have h4 := h3 _ hx
    rw [List.drop_eq_getElem_cons hi, encG, List.take_append_of_le_length (by omega)]
    obtain ⟨l, s, a1, a2, a3, a4⟩ := cut_group (cut := cut - (encG num (gs.take i)).length) (allOk_get h hx) (by omega)
    rw [a3]
    exact no_group a1 a2 hg4 a4
  · rw [List.drop_of_length_le (by omega)]
    have := no_group (l := []) (n := num + i) (q := q) (s := []) rfl rfl hg4 decR_nil
    simpa [encG, encL] using this
end
section
open Go Go.RowKit Go.Proofs
/-! What the iterator tells: the records up to each marker. -/
/-- From place e on the records zs stand, up to place q. -/
def Recs (xs : List UInt8) (e : Int) (zs : Grp) (q : Int) : Prop := 0 ≤ e ∧ q ≤ xs.length ∧ okL zs = true ∧ q = e + ((encL zs).length : Int) ∧ xs.drop e.toNat = encL zs ++ xs.drop q.toNat
theorem Recs.nil {xs : List UInt8} {e : Int} (h0 : 0 ≤ e) (h1 : e ≤ xs.length) : Recs xs e [] e := ⟨h0, h1, rfl, by simp [encL], by simp [encL]⟩
theorem Recs.snoc {xs : List UInt8} {e q : Int} {zs : Grp} {k : UInt8} {p : List UInt8} (h : Recs xs e zs q) (hd : decR xs q = some (k, p)) : Recs xs e (zs ++ [((k.toNat : Int), p)]) (q + 13 + (p.length : Int)) := by
  obtain ⟨h0, h1, h2, h3, h4⟩ := h
  obtain ⟨pre, post, e1, e2, e3⟩ := decR_inv hd
  have ek : UInt8.ofNat ((k.toNat : Int)).toNat = k := by simp
  have e5 : xs.drop q.toNat = recB k p ++ post := by rw [e1, e2, Int.toNat_natCast, List.drop_left' rfl]
  have e6 : xs.drop (q + 13 + (p.length : Int)).toNat = post := by
    rw [e1, e2, show ((pre.length : Int) + 13 + (p.length : Int)).toNat = pre.length + (recB k p).length by rw [recB_length]; omega, ← List.append_assoc, List.drop_left' (by rw [List.length_append])]
  have hlen := congrArg List.length e1
  simp only [List.length_append, recB_length] at hlen
  refine ⟨h0, by omega, ?_, ?_, ?_⟩
  · unfold okL at h2 ⊢
    rw [List.all_append, h2]
    simp [chkB, e3]
    have := k.toNat_lt
    omega
  · rw [encL_app, List.length_append, h3, encL_cons, List.length_append, recB_length]
    simp [encL]
    omega
  · rw [h4, encL_app, List.append_assoc, e5, e6, encL_cons]
    simp only [ek, encL, List.flatMap_nil, List.append_nil]
/-- An item: the records from place e on, with no marker, and a marker, up to place q. -/
def Itm (xs : List UInt8) (e : Int) (l : Grp) (q : Int) : Prop := ∃ zs y, l = zs ++ [y] ∧ no255 zs = true ∧ y.1 = 255 ∧ Recs xs e l q
/-- There is no item from place e on. -/
def NoItm (xs : List UInt8) (e : Int) : Prop := ∃ zs s, okL zs = true ∧ no255 zs = true ∧ xs.drop e.toNat = encL zs ++ s ∧ decR s 0 = none
theorem decR_drop {xs : List UInt8} {q : Int} (h0 : 0 ≤ q) (h1 : q ≤ xs.length) : decR (xs.drop q.toNat) 0 = decR xs q := by
  unfold decR
  by_cases hc : q < 0 ∨ (xs.length : Int) < q ∨ (xs.length : Int) - q < 13
  · rw [if_pos hc, if_pos (by right; right; rw [List.length_drop]; omega)]
  · rw [if_neg hc, if_neg (by rw [List.length_drop]; omega)]
    simp
theorem Recs.stop {xs : List UInt8} {e q : Int} {zs : Grp} (h : Recs xs e zs q) (h5 : no255 zs = true) (hd : decR xs q = none) : NoItm xs e := by
  obtain ⟨h0, h1, h2, h3, h4⟩ := h
  exact ⟨zs, _, h2, h5, h4, by rw [decR_drop (by omega) h1]; exact hd⟩
theorem Itm.of {xs : List UInt8} {e q : Int} {zs : Grp} {k : UInt8} {p : List UInt8} (h : Recs xs e zs q) (h5 : no255 zs = true) (hd : decR xs q = some (k, p)) (hk : ((k.toNat : Int) == 255) = true) : Itm xs e (zs ++ [((k.toNat : Int), p)]) (q + 13 + (p.length : Int)) :=
  ⟨zs, _, rfl, h5, eq_of_beq hk, h.snoc hd⟩
theorem no255_snoc {zs : Grp} {k : Int} {p : List UInt8} (h : no255 zs = true) (hk : (k == 255) = false) : no255 (zs ++ [(k, p)]) = true := by
  unfold no255 at h ⊢
  rw [List.all_append, h]
  simp [hk]
theorem NoItm.no {xs : List UInt8} {e : Int} {n : Nat} {g : Grp} {q : List UInt8} (h : NoItm xs e) (hg : segOk n g = true) : xs.drop e.toNat ≠ encL (segL n g) ++ q := by
  obtain ⟨zs, s, h1, h2, h3, h4⟩ := h
  rw [h3]
  exact no_group h1 h2 (segOk_iff.1 hg).2.2.2.1 h4
/-- A group at the place of an item is that item. -/
theorem Itm.grp {xs : List UInt8} {e q : Int} {l g : Grp} {n : Nat} {r : List UInt8} (h : Itm xs e l q) (hg : segOk n g = true) (hx : xs.drop e.toNat = encL (segL n g) ++ r) : l = segL n g := by
  obtain ⟨zs, y, rfl, h1, h2, h3, h4, h5, h6, h7⟩ := h
  obtain ⟨_, _, g3, g4, _⟩ := segOk_iff.1 hg
  have := seg_same (l := zs) (m := g) (x := y) (y := mkr n g.length) h1 g3 h2 rfl (recs_cmp _ _ _ _ h5 (okL_segL g4) (h7.symm.trans hx))
  rw [this.1, this.2]
  rfl
theorem Itm.in {xs : List UInt8} {e q : Int} {l : Grp} (h : Itm xs e l q) : 0 ≤ e ∧ e + 13 ≤ q ∧ q ≤ xs.length ∧ 0 < l.length ∧ 13 * l.length ≤ q - e := by
  obtain ⟨zs, y, rfl, h1, h2, h3, h4, h5, h6, h7⟩ := h
  have : ∀ l : Grp, 13 * l.length ≤ (encL l).length := by
    intro l
    induction l with
    | nil => simp
    | cons x l ih => rw [encL_cons, List.length_append, recB_length, List.length_cons]; omega
  have h8 := this (zs ++ [y])
  have h9 : (zs ++ [y]).length = zs.length + 1 := by simp
  omega
/-- The bytes of an item. -/
theorem Itm.cut {xs : List UInt8} {e q : Int} {l : Grp} (h : Itm xs e l q) : (xs.take q.toNat).drop e.toNat = encL l := by
  have hi := h.in
  obtain ⟨zs, y, rfl, h1, h2, h3, h4, h5, h6, h7⟩ := h
  rw [List.drop_take, h7, show q.toNat - e.toNat = (encL (zs ++ [y])).length by omega, List.take_left' rfl]
/-- Groups are read up to place e: with one more. -/
structure RdTo (xs : List UInt8) (num : Nat) (gs : List Grp) (e : Int) : Prop where
  len : e = ((encG num gs).length : Int)
  ok : allOk num gs
  top : num + gs.length ≤ 18446744073709551616
  split : xs = encG num gs ++ xs.drop e.toNat
theorem RdTo.nil {xs : List UInt8} {num : Nat} (h : num ≤ 18446744073709551616) : RdTo xs num [] 0 := ⟨rfl, trivial, by simpa using h, rfl⟩
theorem RdTo.snoc {xs : List UInt8} {num : Nat} {gs : List Grp} {e q : Int} {l g : Grp} (h : RdTo xs num gs e) (hi : Itm xs e l q) (hg : segOk (num + gs.length) g = true) (hl : encL (segL (num + gs.length) g) = encL l) (ht : num + gs.length < 18446744073709551616) : RdTo xs num (gs ++ [g]) q := by
  obtain ⟨h1, h2, h3, h4⟩ := h
  have hin := hi.in
  have hi2 := hi
  obtain ⟨zs, y, rfl, i1, i2, i3, i4, i5, i6, i7⟩ := hi
  have e1 : encG num (gs ++ [g]) = encG num gs ++ encL (segL (num + gs.length) g) := by rw [encG_app]; simp [encG]
  refine ⟨?_, ?_, ?_, ?_⟩
  · rw [e1, List.length_append, hl]; omega
  · exact allOk_app.2 ⟨h2, hg, trivial⟩
  · simp; omega
  · rw [e1, hl, List.append_assoc, ← i7]; exact h4
theorem RdTo.done {xs : List UInt8} {num : Nat} {gs : List Grp} {e : Int} (h : RdTo xs num gs e) (hn : num + gs.length < 18446744073709551616 → ∀ g q, segOk (num + gs.length) g = true → xs.drop e.toNat ≠ encL (segL (num + gs.length) g) ++ q) : ∃ m : Nat, e = (m : Int) ∧ ReadP xs num gs m :=
  ⟨_, h.len, rfl, h.ok, h.top, _, h.split, hn⟩
/-- The item's records are no group of that number, or not with these bytes. -/
theorem Itm.no {xs : List UInt8} {e q : Int} {l : Grp} {n : Nat} (h : Itm xs e l q) (hb : segOk n l.dropLast = false ∨ encL (segL n l.dropLast) ≠ encL l) : ∀ g r, segOk n g = true → xs.drop e.toNat ≠ encL (segL n g) ++ r := by
  intro g r hg hx
  have e1 := h.grp hg hx
  have e2 : l.dropLast = g := by rw [e1]; unfold segL; simp
  rcases hb with hb | hb
  · rw [e2, hg] at hb; cases hb
  · exact hb (by rw [e2, ← e1])
end
section
open Go Go.RowKit Go.Proofs
open Go.Shelf in
attribute [local go_sem] Oper.semAt_some
attribute [local irreducible] Calls

/-- An item: where it ends, and its records (the last one the marker). -/
structure GIt where
  at' : Int
  l : Grp
  A : Option Addr
  c : Nat
def encI (x : GIt) : Array Value := #[.int .i64 x.at', .slice x.A x.l.length x.c]
theorem enc_it (q : Int) (zs : List (Int × Value × List UInt8)) (z : Int × Value × List UInt8) (A : Option Addr) (c : Nat) : encI ⟨q, (zs ++ [z]).map gkp, A, c⟩ = #[.int .i64 q, .slice A (zs.length + 1) c] := by simp [encI]
/-- Where the items end. -/
def endI (l : List GIt) : Int := (l.getLast?.map (·.at')).getD 0
theorem endI_snoc (l : List GIt) (x : GIt) : endI (l ++ [x]) = x.at' := by simp [endI]
theorem Lib.row_at {W : World} {E : TypeId} {s g n c i : Nat} {l : List Value} {x : Value} (h : (Row (.slice (some ⟨g, 0, none⟩) n c) E s n l).ok W) (hx : l[i]? = some x) : W.cell? ⟨g, i, none⟩ = some x := by
  have := h.cells (g := g) rfl i x hx
  unfold Addr.add at this
  split at this
  · rename_i h0; subst h0; exact this
  · simpa using this
/-- What the iterator has, at the start of a group. -/
def ItFs (v : Value) (xs : List UInt8) (bb bat bl : Nat) (A0 : World) (zs : List (Int × Value × List UInt8)) : List (World → Prop) :=
  (fun V => HB V v xs) :: (fun V => V.heap[bb]? = some (.cells #[v] 28 (0, 0))) :: [fun V => Same (fun k => k = bat ∨ k = bl) A0 V, fun V => ∀ z ∈ zs, V.ownsRow A0.heap.size 5 1 z.2.1 z.2.2.length (bs z.2.2)]
theorem HB.awayX {W : World} {K : Nat → Prop} {v : Value} {l : List UInt8} (h : HB W v l) (hk : l ≠ [] → ∀ k, v.ownBlock = some k → ¬ K k) : Away K (fun W => HB W v l) W := by
  by_cases h0 : l = []
  · subst h0
    intro V _
    obtain ⟨A, c, rfl, _⟩ := h.shape
    exact HB.nil _ _ _
  · exact h.away (hk h0)
theorem it_base {A0 : World} {M bb bat bl : Nat} {q : Int} {v : Value} {xs : List UInt8} (hM : M ≤ A0.heap.size) (h1 : A0.heap[bat]? = some (.cells #[.int .i64 q] 3 (0, 0))) (h2 : A0.heap[bl]? = some (.cells #[.slice none 0 0] 37 (0, 0))) (g1 : M ≤ bat) (g2 : M ≤ bl) (hne : bat ≠ bl) (hbb : A0.heap[bb]? = some (.cells #[v] 28 (0, 0))) (hbM : bb < M) (hv : HB A0 v xs) (hvm : xs ≠ [] → ∀ k, v.ownBlock = some k → k < M) :
    Sk A0 (World.cut A0 M) A0 [Blk bat [.int .i64 q] 3, Blk bl [.slice none 0 0] 37, Row (.slice none 0 0) 48 2 0 (gcells [])] (ItFs v xs bb bat bl A0 []) := by
  have hz : (World.cut A0 M).heap.size = M := by simp [World.cut]; omega
  have s0 := (St.cut hM).new (Below.refl _ _) (r := Row (.slice none 0 0) 48 2 0 (gcells [])) (World.ownsRow_nil _ _ _ _) (fun k hk => by simp [Row, Value.ownBlock] at hk)
  have s1 := s0.adopt (b := bl) (l := [.slice none 0 0]) (T := 37) h2 (by rw [hz]; exact g2) (fun ⟨r, hr, hm⟩ => by simp at hr; subst hr; simp [Row, Value.ownBlock] at hm)
  have s2 := s1.adopt (b := bat) (l := [.int .i64 q]) (T := 3) h1 (by rw [hz]; exact g1) (fun ⟨r, hr, hm⟩ => by
    simp at hr
    rcases hr with rfl | rfl
    · simp [Blk] at hm; exact hne hm
    · simp [Row, Value.ownBlock] at hm)
  have keys : ∀ k, Keys [Blk bat [.int .i64 q] 3, Blk bl [.slice none 0 0] 37, Row (.slice none 0 0) 48 2 0 (gcells [])] k → k = bat ∨ k = bl := fun k ⟨r, hr, hm⟩ => by
    simp at hr
    rcases hr with rfl | rfl | rfl
    · simp [Blk] at hm; exact .inl hm
    · simp [Blk] at hm; exact .inr hm
    · simp [Row, Value.ownBlock] at hm
  have nk : ∀ k, k < M → ¬ Keys [Blk bat [.int .i64 q] 3, Blk bl [.slice none 0 0] 37, Row (.slice none 0 0) 48 2 0 (gcells [])] k := fun k hk h => by
    rcases keys k h with rfl | rfl <;> omega
  have s3 := s2.addF (F := fun V => ∀ z ∈ ([] : List (Int × Value × List UInt8)), V.ownsRow A0.heap.size 5 1 z.2.1 z.2.2.length (bs z.2.2)) (fun V _ z hz => by cases hz)
  have s4 := s3.addF (F := fun V => Same (fun k => k = bat ∨ k = bl) A0 V) (fun V hs => ⟨hs.size, fun k o hn ho hc => hs.blk k o (fun h => hn (keys k h)) ho hc⟩)
  have s5 := s4.addF (F := fun V => V.heap[bb]? = some (.cells #[v] 28 (0, 0))) (fun V hs => hs.blk bb _ (nk bb hbM) hbb rfl)
  have s6 := s5.addF (F := fun V => HB V v xs) (hv.awayX fun h0 k hk => nk k (hvm h0 k hk))
  exact ⟨s6, KeepsOthers.refl _⟩
/-- Records whose memory lies between two places of the heap. -/
def GOwn (lo hi : Nat) (u : Value) (l : Grp) (V : World) : Prop := ∃ ys : List (Int × Value × List UInt8), ys.map gkp = l ∧ V.ownsRow lo 48 2 u ys.length (gcells ys) ∧ (∀ k, u.ownBlock = some k → k < hi) ∧ ∀ y ∈ ys, V.ownsRow lo 5 1 y.2.1 y.2.2.length (bs y.2.2) ∧ ∀ k, y.2.1.ownBlock = some k → k < hi
theorem GOwn.rs {lo hi : Nat} {u : Value} {l : Grp} {V : World} (h : GOwn lo hi u l V) : RS V u l := by
  obtain ⟨ys, rfl, h1, _, h3⟩ := h
  exact RS.of_g h1 (fun y hy => HB.of_own (h3 y hy).1)
section
variable {A0 W w0 : World} {L : List Res} {v : Value} {xs : List UInt8} {bb bat bl : Nat} {zs : List (Int × Value × List UInt8)} {q : Int} {u : Value}
/-- What the iterator turned since the last item. -/
theorem it_turns (hS : Sk A0 w0 W L (ItFs v xs bb bat bl A0 zs)) (hside : w0.os = A0.os ∧ w0.tape = A0.tape ∧ w0.output = A0.output) {i j : Nat} (hi : L[i]? = some (Blk bat [.int .i64 q] 3)) (hj : L[j]? = some (Blk bl [u] 37)) : TurnsH 37 (bat, bl) A0 W :=
  ⟨hS.st.fact (i := 2) rfl, hS.oth, ⟨hS.st.below.os.trans hside.1, hS.st.below.tape.trans hside.2.1, hS.st.below.output.trans hside.2.2⟩, ⟨q, hS.st.blk hi⟩, u, hS.st.blk hj⟩
theorem it_next {k : Int} {p : List UInt8} {A : Option Addr} {c : Nat} (hS : Sk A0 w0 W L ((Row (.slice A p.length c) 5 1 p.length (bs p)).ok :: ItFs v xs bb bat bl A0 zs)) (hg : ∀ r, (Value.slice A p.length c).ownBlock = some r → A0.heap.size ≤ r) : Sk A0 w0 W L (ItFs v xs bb bat bl A0 (zs ++ [(k, .slice A p.length c, p)])) := by
  have hn : Away (Keys L) (fun V => ∀ z ∈ zs ++ [(k, .slice A p.length c, p)], V.ownsRow A0.heap.size 5 1 z.2.1 z.2.2.length (bs z.2.2)) W := by
    intro V hs z hz
    rcases List.mem_append.1 hz with hz | hz
    · exact hS.st.facts (fun V => ∀ z ∈ zs, V.ownsRow A0.heap.size 5 1 z.2.1 z.2.2.length (bs z.2.2)) (by simp [ItFs]) V hs z hz
    · simp at hz
      subst hz
      exact own_base (hS.st.facts _ (List.mem_cons_self ..) V hs) hg
  refine ⟨(hS.st.addF hn).dropF fun G hG => ?_, hS.oth⟩
  simp only [ItFs, List.mem_cons, List.not_mem_nil, or_false] at hG ⊢
  rcases hG with h | h | h | h
  · exact .inr (.inr (.inl h))
  · exact .inr (.inr (.inr (.inl h)))
  · exact .inr (.inr (.inr (.inr (.inl h))))
  · exact .inl h
theorem it_item {A : Option Addr} {c i : Nat} (hS : Sk A0 w0 W L (ItFs v xs bb bat bl A0 zs)) (hi : L[i]? = some (Row (.slice A zs.length c) 48 2 zs.length (gcells zs))) (hge : ∀ r, (Value.slice A zs.length c).ownBlock = some r → A0.heap.size ≤ r) : Away (fun k => k < A0.heap.size) (GOwn A0.heap.size W.heap.size (.slice A zs.length c) (zs.map gkp)) W := by
  intro V hs
  have hz := hS.st.fact (F := fun V => ∀ z ∈ zs, V.ownsRow A0.heap.size 5 1 z.2.1 z.2.2.length (bs z.2.2)) (i := 3) rfl
  have ho := own_base (hS.st.res hi) hge
  refine ⟨zs, rfl, ?_, fun k hk => (ho.lt k hk).2, fun z hm => ⟨?_, fun k hk => ((hz z hm).lt k hk).2⟩⟩
  · exact Away.row ho (K := fun k => k < A0.heap.size) (fun k hk h => by have := hge k hk; omega) V hs
  · exact Away.row (hz z hm) (K := fun k => k < A0.heap.size) (fun k hk h => by have := (hz z hm).lt k hk; omega) V hs
end
def ItNew (x : GIt) (A B : World) : Prop := Away (fun k => k < A.heap.size) (GOwn A.heap.size B.heap.size (.slice x.A x.l.length x.c) x.l) B
theorem Recs.many {xs : List UInt8} {e q : Int} {zs : Grp} (h : Recs xs e zs q) : 0 ≤ e ∧ e ≤ q ∧ q ≤ xs.length ∧ 13 * zs.length ≤ q - e := by
  obtain ⟨h0, h1, h2, h3, h4⟩ := h
  have : ∀ l : Grp, 13 * l.length ≤ (encL l).length := by
    intro l
    induction l with
    | nil => simp
    | cons x l ih => rw [encL_cons, List.length_append, recB_length, List.length_cons]; omega
  have h8 := this zs
  omega
set_option maxHeartbeats 2000000 in
set_option maxRecDepth 100000 in
theorem ended1_in (n m bb : Nat) (hn : 1 ≤ n) (v : Value) (xs : List UInt8) (w : World) (hbb : w.heap[bb]? = some (.cells #[v] 28 (0, 0))) (hv : HB w v xs) (hvm : xs ≠ [] → ∀ k, v.ownBlock = some k → k < m) (hmb : m ≤ bb) (hl : xs.length ≤ 1000000) :
    SeqH Fence.wide n Try.prog 31 #[.pointer (some ⟨bb, 0, none⟩)] encI (Keeps (fun k => k = bb ∨ k < m)) (fun c => Keeps (fun k => k = c.1 ∨ k = c.2 ∨ k = bb ∨ k < m)) 37 ItNew (fun ys => NoItm xs (endI ys)) (fun pre x => Itm xs (endI pre) x.l x.at') w := by
  intro l J Jx W hK hW hJ hJx hY h0
  have kb := (hK bb (.inl rfl)).trans hbb
  have kv : HB W v xs := by
    obtain ⟨A, c, rfl, e0, e1, e2⟩ := hv
    exact ⟨A, c, rfl, e0, e1, fun a ha i x hx => hK.cell (e2 a ha i x hx) (.inr (hvm (fun e => by subst e; simp at hx) _ (by subst ha; simp [Value.ownBlock, blk_of_add])))⟩
  have HY := Lib.hid hY; have HJ := Lib.hid hJ; have HJX := Lib.hid hJx; have H0 := Lib.hid h0
  have hbz : bb < W.heap.size := blk_lt kb
  have HS := Lib.hid (St.start W).sk
  have HKB := Lib.hid kb; have HKV := Lib.hid kv
  clear hY hJ hJx h0 hbb hv hW hK kb kv
  refine callsIn_of_wp Try.func31 rfl trivial ?_ rfl
  simp only [Try.ntmps31, List.size_toArray, List.length_cons, List.length_nil, Nat.reduceAdd, Nat.reduceSub, Array.replicate_succ, Array.replicate_zero, List.push_toArray, List.append_toArray, List.nil_append, List.cons_append]
  refine wpIn_scope ?_
  gi_wp2_with (first
    | (refine itd 3 (by rfl) ?_; refine il (by rfl) (i_al (l := [.slice none 0 0]) HS.out (by rfl) z31 (by rfl) ?_); intro bl Wn hS; clear HS; have HS := Lib.hid hS; clear hS)
    | (refine itd 4 (by rfl) ?_; refine il (by rfl) (i_al (l := [.int .i64 0]) HS.out (by rfl) z3c (by rfl) ?_); intro bat Wn hS; clear HS; have HS := Lib.hid hS; clear hS)
    | (refine il (by rfl) (i_st (v := .int .i64 0) HS.out 0 (by rfl) (by rfl) (by rfl) (by kernel_rfl) (by rfl) (by rfl) (by exact Nat.zero_lt_one) ?_); intro Wn hS; clear HS; have HS := Lib.hid hS; clear hS))
  refine wpIn_label ?_
  gi_wp2_with fail
  have hI1 : InitH 37 (bat, bl) W Wn := by
    have hne : bat ≠ bl := fun e => HS.out.st.apart 0 1 _ _ rfl rfl (by decide) bat (by simp [Blk]) (by simp [Blk, e])
    exact ⟨HS.out.st.below, ((HS.out.st.own _ (List.mem_of_getElem? (i := 0) rfl)).2 bat (by simp [Blk])).1, ((HS.out.st.own _ (List.mem_of_getElem? (i := 1) rfl)).2 bl (by simp [Blk])).1, hne, HS.out.st.blk (i := 0) rfl, HS.out.st.blk (i := 1) rfl⟩
  have hJ0 := H0.out (bat, bl) Wn hI1
  have hge1 := hI1.ge1; have hge2 := hI1.ge2; have hne := hI1.ne
  dsimp only at hge1 hge2 hne
  have hkb2 : Wn.heap[bb]? = some (.cells #[v] 28 (0, 0)) := (hI1.below.block bb hbz).trans HKB.out
  have hkv2 := HKV.out.below hI1.below
  have hone := hI1.one; have htwo := hI1.two
  dsimp only at hone htwo
  have hWz : W.heap.size ≤ Wn.heap.size := hI1.below.size
  have HP0 := Lib.hid (show Recs xs (endI []) [] 0 from Recs.nil (by decide) (by exact Int.natCast_nonneg _))
  have HNE := Lib.hid hne
  clear HS hI1 H0 HKB HKV
  obtain ⟨W1, hW1⟩ : ∃ W1, Wn = W1 := ⟨_, rfl⟩
  subst hW1
  gi_loopw [] (fun wr => ∃ (A0 : World) (pre : List GIt) (zs : List (Int × Value × List UInt8)) (q : Int) (A : Option Addr) (c : Nat), Recs xs (endI pre) (zs.map gkp) q ∧ no255 (zs.map gkp) = true ∧ J (bat, bl) pre A0 ∧ W.heap.size ≤ A0.heap.size ∧ (∀ r, (Value.slice A zs.length c).ownBlock = some r → A0.heap.size ≤ r) ∧
      Sk A0 (World.cut A0 W.heap.size) wr [Blk bat [.int .i64 q] 3, Blk bl [.slice A zs.length c] 37, Row (.slice A zs.length c) 48 2 zs.length (gcells zs)] (ItFs v xs bb bat bl A0 zs)) (fun wr => ((xs.length : Int) + 1 - at3 bat wr).toNat)
  case atStart => exact ⟨Wn, [], [], 0, none, 0, HP0.out, rfl, hJ0, hWz, (fun r hr => by simp [Value.ownBlock] at hr), it_base hWz hone htwo hge1 hge2 hne hkb2 hbz hkv2 (fun h0 k hk => Nat.lt_of_lt_of_le (hvm h0 k hk) (by omega))⟩
  case round =>
    obtain ⟨A0, pre, zs, q, A, c, hrec, h255, hJ0', hWA, hge, hs⟩ := hrel
    have hat : at3 bat wr = q := by unfold at3; rw [hs.st.cell (i := 0) (k := 0) rfl rfl]; rfl
    have HS := Lib.hid hs
    have HJ0 := Lib.hid hJ0'; have HREC := Lib.hid hrec; have H255 := Lib.hid h255; have HGE := Lib.hid hge; have HAT := Lib.hid hat; have HWA := Lib.hid hWA
    have hmany := hrec.many
    rw [List.length_map] at hmany
    have hz6 : zs.length ≤ 1000000 := by omega
    have HMANY := Lib.hid hmany
    clear hs hJ0' hrec h255 hge hat hJ0 HP0 hkb2 hkv2 hone htwo hWA hmany hWz
    cases hd : decR xs q with
    | none =>
      have HD := Lib.hid hd
      clear hd
      gi_wp2_with fail
      refine ⟨trivial, ?_⟩
      refine (callsIn_wide.2 (gather_no HS.out hl hz6 HD.out)).mono ?_
      rintro e Wq ⟨rfl, hS⟩
      clear HS
      have HS := Lib.hid hS
      clear hS
      gi_wp2_with fail
      rw [Exit.noGoto_normal]
      refine bodyPost_end (results_none rfl _ _ _) rfl ?_
      have hT := it_turns HS.out ⟨rfl, rfl, rfl⟩ (i := 0) (j := 1) rfl rfl
      exact ⟨⟨_, rfl⟩, (bat, bl), .inl ⟨pre, HREC.out.stop H255.out HD.out, HJ.out _ _ _ _ HJ0.out hT⟩⟩
    | some kp =>
      obtain ⟨k, p⟩ := kp
      have HD := Lib.hid hd
      have hsn := HREC.out.snoc hd
      have HSN := Lib.hid hsn
      clear hd hsn
      gi_wp2_with fail
      refine ⟨trivial, ?_⟩
      refine (callsIn_wide.2 (gather_yes HS.out hl hz6 HGE.out HD.out)).mono ?_
      rintro e Wq ⟨Ap, cp, A', c', rfl, hg1, hg2, hS⟩
      have hS1 := it_next (k := (k.toNat : Int)) hS hg2
      clear HS hS
      have HS := Lib.hid hS1
      have HG1 := Lib.hid hg1; have HG2 := Lib.hid hg2
      clear hS1 hg1 hg2
      obtain ⟨g, hg⟩ : ∃ g, A' = some ⟨g, 0, none⟩ := by
        rcases (HS.out.st.res (i := 2) rfl).2 with ⟨e, h0⟩ | ⟨g, cap, cur, e, _⟩
        · omega
        · injection e with e _ _; exact ⟨g, e⟩
      subst hg
      have hR : Wq.rangeAt g (zs.length * 2) [.int .i64 (k.toNat : Int), .slice Ap p.length cp] := by
        have hr := HS.out.st.res (i := 2) rfl
        have c0 := Lib.row_at hr (i := zs.length * 2) (x := .int .i64 (k.toNat : Int)) (by rw [List.getElem?_append_right (by rw [gcells_len]; exact Nat.le_refl _), gcells_len, Nat.sub_self]; rfl)
        have c1 := Lib.row_at hr (i := zs.length * 2 + 1) (x := .slice Ap p.length cp) (by rw [List.getElem?_append_right (by rw [gcells_len]; omega), gcells_len, Nat.add_sub_cancel_left]; rfl)
        exact range2 c0 c1
      have HR := Lib.hid hR
      have h23 : Fence.wide.fn 23 := trivial
      clear hR
      have egc : gcells zs ++ [.int .i64 (k.toNat : Int), .slice Ap p.length cp] = gcells (zs ++ [((k.toNat : Int), Value.slice Ap p.length cp, p)]) := (gcells_snoc zs ((k.toNat : Int), .slice Ap p.length cp, p)).symm
      have ele : zs.length + 1 = (zs ++ [((k.toNat : Int), Value.slice Ap p.length cp, p)]).length := by simp
      have HEG := Lib.hid egc; have HEL := Lib.hid ele
      clear egc ele
      cases hk : ((k.toNat : Int) == 255) with
      | false =>
        have HK := Lib.hid hk
        clear hk
        gi_wp2_with (first
          | (refine itd 9 (by rfl) ?_; refine il (by rfl) (i_ld HS.out 1 (by rfl) (by rfl) (by rfl) (by kernel_rfl) (by rfl) ?_))
          | (refine itd 10 (by rfl) ?_; refine il (by rfl) (i_ld HS.out 1 (by rfl) (by rfl) (by rfl) (by kernel_rfl) (by rfl) ?_))
          | (refine itd 14 (by rfl) ?_; refine il (by rfl) (wpIn_of_run (by intro c h; cases h) (by rfl) (run_lda (n := 2) (cs := [.int .i64 (k.toNat : Int), .slice Ap p.length cp]) ag25 (by rfl) (by rfl) HR.out (by rfl)) ?_))
          | (gi_at_call 23; refine (callsIn_wide.2 (mark23 _ _ _)).mono ?_; rintro e Wr ⟨rfl, hb⟩; rw [HK.out]; have hS := HS.out.call hb; clear hb; clear HS; have HS := Lib.hid hS; clear hS))
        go_roundw
        case rel =>
          have hS := HS.out
          rw [HEG.out, HEL.out] at hS
          have hgg := HG1.out
          rw [HEL.out] at hgg
          refine ⟨A0, pre, zs ++ [((k.toNat : Int), Value.slice Ap p.length cp, p)], _, _, c', ?_, ?_, HJ0.out, HWA.out, hgg, hS⟩
          · rw [List.map_append]; exact HSN.out
          · rw [List.map_append]; exact no255_snoc H255.out HK.out
        case measure =>
          have e1 : at3 bat Wr = q + 13 + (p.length : Int) := by unfold at3; rw [HS.out.st.cell (i := 0) (k := 0) rfl rfl]; rfl
          rw [e1, HAT.out]
          have := HMANY.out
          omega
      | true =>
        have HK := Lib.hid hk
        clear hk
        have hYA : ∀ Wr, Sk A0 (World.cut A0 W.heap.size) Wr [Blk bat [.int .i64 (q + 13 + (p.length : Int))] 3, Blk bl [.slice (some ⟨g, 0, none⟩) (zs.length + 1) c'] 37, Row (.slice (some ⟨g, 0, none⟩) (zs.length + 1) c') 48 2 (zs.length + 1) (gcells zs ++ [.int .i64 (k.toNat : Int), .slice Ap p.length cp])] (ItFs v xs bb bat bl A0 (zs ++ [((k.toNat : Int), Value.slice Ap p.length cp, p)])) → YieldAt Fence.wide (n - 1) Try.prog l #[.int .i64 (q + 13 + (p.length : Int)), .slice (some ⟨g, 0, none⟩) (zs.length + 1) c'] Wr fun e W' => (e = .returned (.bool true) ∧ J (bat, bl) (pre ++ [⟨q + 13 + (p.length : Int), (zs ++ [((k.toNat : Int), Value.slice Ap p.length cp, p)]).map gkp, some ⟨g, 0, none⟩, c'⟩]) W' ∧ Keeps (fun k => k = bat ∨ k = bl ∨ k = bb ∨ k < m) Wr W') ∨ (e = .returned (.bool false) ∧ Jx (bat, bl) (pre ++ [⟨q + 13 + (p.length : Int), (zs ++ [((k.toNat : Int), Value.slice Ap p.length cp, p)]).map gkp, some ⟨g, 0, none⟩, c'⟩]) W' ∧ Keeps (fun k => k = bat ∨ k = bl ∨ k = bb ∨ k < m) Wr W') := by
          intro Wr hS
          have hTn := it_turns hS ⟨rfl, rfl, rfl⟩ (i := 0) (j := 1) rfl rfl
          have hi2 : [Blk bat [.int .i64 (q + 13 + (p.length : Int))] 3, Blk bl [.slice (some ⟨g, 0, none⟩) (zs.length + 1) c'] 37, Row (.slice (some ⟨g, 0, none⟩) (zs.length + 1) c') 48 2 (zs.length + 1) (gcells zs ++ [.int .i64 (k.toNat : Int), .slice Ap p.length cp])][2]? = some (Row (.slice (some ⟨g, 0, none⟩) (zs ++ [((k.toNat : Int), Value.slice Ap p.length cp, p)]).length c') 48 2 (zs ++ [((k.toNat : Int), Value.slice Ap p.length cp, p)]).length (gcells (zs ++ [((k.toNat : Int), Value.slice Ap p.length cp, p)]))) := by
            rw [← HEL.out, ← HEG.out]
            rfl
          have hIt := it_item hS hi2 (by rw [← HEL.out]; exact HG1.out)
          rw [show (zs ++ [((k.toNat : Int), Value.slice Ap p.length cp, p)]).length = ((zs ++ [((k.toNat : Int), Value.slice Ap p.length cp, p)]).map gkp).length by rw [List.length_map]] at hIt
          have hNx : Itm xs (endI pre) ((zs ++ [((k.toNat : Int), Value.slice Ap p.length cp, p)]).map gkp) (q + 13 + (p.length : Int)) := by rw [List.map_append]; exact Itm.of HREC.out H255.out HD.out HK.out
          have h := HY.out (bat, bl) pre ⟨q + 13 + (p.length : Int), (zs ++ [((k.toNat : Int), Value.slice Ap p.length cp, p)]).map gkp, some ⟨g, 0, none⟩, c'⟩ A0 Wr hge1 hge2 HJ0.out hTn hIt hNx
          rw [enc_it] at h
          exact h
        have HYA := Lib.hid hYA
        clear hYA
        gi_wp2_with (first
          | (refine itd 9 (by rfl) ?_; refine il (by rfl) (i_ld HS.out 1 (by rfl) (by rfl) (by rfl) (by kernel_rfl) (by rfl) ?_))
          | (refine itd 10 (by rfl) ?_; refine il (by rfl) (i_ld HS.out 1 (by rfl) (by rfl) (by rfl) (by kernel_rfl) (by rfl) ?_))
          | (refine itd 14 (by rfl) ?_; refine il (by rfl) (wpIn_of_run (by intro c h; cases h) (by rfl) (run_lda (n := 2) (cs := [.int .i64 (k.toNat : Int), .slice Ap p.length cp]) ag25 (by rfl) (by rfl) HR.out (by rfl)) ?_))
          | (gi_at_call 23; refine (callsIn_wide.2 (mark23 _ _ _)).mono ?_; rintro e Wr ⟨rfl, hb⟩; rw [HK.out]; have hS := HS.out.call hb; clear hb; clear HS; have HS := Lib.hid hS; clear hS; obtain ⟨fn, tmps, assign, body, hy, hRY⟩ := HYA.out _ HS.out; have HRY := Lib.hid hRY; clear hRY)
          | (refine itd 18 (by rfl) ?_; refine il (by rfl) (i_ld HS.out 0 (by rfl) (by rfl) (by rfl) (by kernel_rfl) (by rfl) ?_))
          | (refine itd 19 (by rfl) ?_; refine il (by rfl) (i_ld HS.out 1 (by rfl) (by rfl) (by rfl) (by kernel_rfl) (by rfl) ?_)))
        have n1 := HS.out.st.blk (i := 0) rfl
        have n3 := HS.out.st.fact (i := 1) rfl
        have n4 := HS.out.st.fact (i := 0) rfl
        have n5 := HS.out.st.blk (i := 1) rfl
        refine HRY.out.mono ?_
        rintro e W3 (⟨rfl, hJ3, hk3⟩ | ⟨rfl, hJx3, hk3⟩)
        · have q1 := (hk3 bat (.inl rfl)).trans n1
          have q2 := (hk3 bl (.inr (.inl rfl))).trans n5
          have q3 := (hk3 bb (.inr (.inr (.inl rfl)))).trans n3
          have qv : HB W3 v xs := by
            obtain ⟨A, c, rfl, e0, e1, e2⟩ := n4
            exact ⟨A, c, rfl, e0, e1, fun a ha i x hx => hk3.cell (e2 a ha i x hx) (.inr (.inr (.inr (hvm (fun e => by subst e; simp at hx) _ (by subst ha; simp [Value.ownBlock, blk_of_add])))))⟩
          have qc : W3.cell? ⟨bl, 0, none⟩ = some (.slice (some ⟨g, 0, none⟩) (zs.length + 1) c') := (blk_cell q2 0).trans rfl
          have HC := Lib.hid qc; have HFZ := Lib.hid (blk_free q2 0); have HV := Lib.hid qv; have HQ1 := Lib.hid q1; have HQ2 := Lib.hid q2; have HQ3 := Lib.hid q3; have HJ3 := Lib.hid hJ3
          clear q1 q2 q3 qc qv hJ3 hk3 n1 n3 n4 n5 hy HS
          gi_wp2_with (refine il (by rfl) (wpIn_of_run (by intro c h; cases h) (by rfl) (run_stc (by kernel_rfl) (by rfl) (by rfl) (by rfl) (by rfl) HC.out HFZ.out) ?_))
          go_roundw
          case rel =>
            have hlb : bat < W3.heap.size := blk_lt HQ1.out
            have hch : Chg [bl] W3 (W3.setCell ⟨bl, 0, none⟩ (.slice none 0 0)) := (Chg.refl _ _).setCell (.inl (by simp)) _
            have h3 : (W3.setCell ⟨bl, 0, none⟩ (.slice none 0 0)).heap[bl]? = some (.cells #[.slice none 0 0] 37 (0, 0)) := by simpa using blk_set HQ2.out 0 (.slice none 0 0)
            have h1 := hch.blk HQ1.out (by simpa using HNE.out)
            have hbb4 := hch.blk HQ3.out (by simp; omega)
            have hv4 : HB (W3.setCell ⟨bl, 0, none⟩ (.slice none 0 0)) v xs := by
              obtain ⟨A, c, rfl, e0, e1, e2⟩ := HV.out
              refine ⟨A, c, rfl, e0, e1, fun a ha q x hx => hch.cell (e2 a ha q x hx) ?_⟩
              have := hvm (fun e => by subst e; simp at hx) a.block (by subst ha; rfl)
              simp [blk_of_add]; omega
            have hTu : TurnsH 37 (bat, bl) W3 (W3.setCell ⟨bl, 0, none⟩ (.slice none 0 0)) := ⟨⟨hch.size, fun k o hn ho hc => (hch.block k (Array.getElem?_eq_some_iff.1 ho).1 (by simp; exact fun e => hn (.inr e))).trans ho⟩, KeepsOthers.setCell _ _ _, ⟨rfl, rfl, rfl⟩, ⟨_, h1⟩, _, h3⟩
            have hMz : W.heap.size ≤ (W3.setCell ⟨bl, 0, none⟩ (.slice none 0 0)).heap.size := by have := hch.size; omega
            refine ⟨_, _, [], q + 13 + (p.length : Int), none, 0, ?_, rfl, HJ.out _ _ _ _ HJ3.out hTu, hMz, (fun r hr => by simp [Value.ownBlock] at hr), it_base hMz h1 h3 hge1 hge2 HNE.out hbb4 hbz hv4 (fun h0 k hk => Nat.lt_of_lt_of_le (hvm h0 k hk) (by omega))⟩
            rw [endI_snoc]
            have := HSN.out.many
            exact Recs.nil (by dsimp only; omega) (by dsimp only; omega)
          case measure =>
            have hch : Chg [bl] W3 (W3.setCell ⟨bl, 0, none⟩ (.slice none 0 0)) := (Chg.refl _ _).setCell (.inl (by simp)) _
            have h1 := hch.blk HQ1.out (by simpa using HNE.out)
            have e1 : at3 bat (W3.setCell ⟨bl, 0, none⟩ (.slice none 0 0)) = q + 13 + (p.length : Int) := by unfold at3; rw [blk_cell h1 0]; rfl
            rw [e1, HAT.out]
            have := HMANY.out
            omega
        · clear n1 n3 n4 n5 hk3 HS hy
          gi_wp2_with fail
          try rw [Exit.noGoto_ret]
          refine bodyPost_ret (results_none rfl _ _ _) rfl ?_
          exact ⟨⟨_, rfl⟩, (bat, bl), .inr ⟨_, hJx3⟩⟩
end
section
open Go Go.RowKit Go.Proofs
open Go.Shelf in
attribute [local go_sem] Oper.semAt_some
attribute [local irreducible] Calls

theorem ended20 (v : Value) (h1 : v.oneCell' = true) (w : World) : Calls Try.prog 20 #[v] w fun e w' => ∃ bb, e = .returned (.func (.func 31) #[] #[.pointer (some ⟨bb, 0, none⟩)]) ∧ St w w' [Blk bb [v] 28] [] := by
  have HS := Lib.hid (St.start w)
  go_enter Try.func20, Try.ntmps20
  go_wp2_with (first
    | (refine atd 1 (by rfl) ?_; refine wl (by rfl) (s_bx (l := [v]) HS.out (by rfl) (by first | rfl | exact cells_one h1) ?_); intro bb Wn hS; clear HS; have HS := Lib.hid hS; clear hS))
  go_ret
  exact ⟨_, rfl, HS.out⟩
/-- Items in memory of their own, one behind another. -/
def GsOwn : Nat → Nat → List GIt → World → Prop
  | lo, hi, [], _ => lo ≤ hi
  | lo, hi, x :: l, V => ∃ m, GOwn lo m (.slice x.A x.l.length x.c) x.l V ∧ lo ≤ m ∧ GsOwn m hi l V
theorem GOwn.mono {lo lo' hi hi' : Nat} {u : Value} {l : Grp} {V : World} (h : GOwn lo hi u l V) (h1 : lo' ≤ lo) (h2 : hi ≤ hi') : GOwn lo' hi' u l V := by
  obtain ⟨ys, e, a, b, c⟩ := h
  refine ⟨ys, e, own_base a (fun k hk => Nat.le_trans h1 (a.lt k hk).1), fun k hk => Nat.lt_of_lt_of_le (b k hk) h2, fun y hy => ⟨own_base (c y hy).1 (fun k hk => Nat.le_trans h1 ((c y hy).1.lt k hk).1), fun k hk => Nat.lt_of_lt_of_le ((c y hy).2 k hk) h2⟩⟩
theorem GsOwn.le {lo hi : Nat} {l : List GIt} {V : World} (h : GsOwn lo hi l V) : lo ≤ hi := by
  induction l generalizing lo with
  | nil => exact h
  | cons x l ih => obtain ⟨m, _, h2, h3⟩ := h; exact Nat.le_trans h2 (ih h3)
theorem GsOwn.snoc {lo hi B T : Nat} {l : List GIt} {x : GIt} {V : World} (h : GsOwn lo hi l V) (h1 : hi ≤ B) (h2 : B ≤ T) (hx : GOwn B T (.slice x.A x.l.length x.c) x.l V) : GsOwn lo T (l ++ [x]) V := by
  induction l generalizing lo with
  | nil => exact ⟨T, hx.mono (Nat.le_trans h h1) (Nat.le_refl _), Nat.le_trans h (Nat.le_trans h1 h2), Nat.le_refl _⟩
  | cons y l ih => obtain ⟨m, a, b, c⟩ := h; exact ⟨m, a, b, ih c⟩
theorem GsOwn.rs {lo hi : Nat} {l : List GIt} {V : World} (h : GsOwn lo hi l V) : ∀ x ∈ l, RS V (.slice x.A x.l.length x.c) x.l := by
  induction l generalizing lo with
  | nil => intro x hx; cases hx
  | cons y l ih =>
    obtain ⟨m, a, b, c⟩ := h
    intro x hx
    rcases List.mem_cons.1 hx with rfl | hx
    · exact a.rs
    · exact ih c x hx
def itCell (x : GIt) : Value := .slice x.A (x.l.length - 1) (x.l.length - 1)
def itCells (l : List GIt) : List Value := l.map itCell
def strip (l : List GIt) : List Grp := l.map fun x => x.l.dropLast
theorem strip_len (l : List GIt) : (strip l).length = l.length := by simp [strip]
theorem strip_snoc (l : List GIt) (x : GIt) : strip (l ++ [x]) = strip l ++ [x.l.dropLast] := by simp [strip]
theorem itCells_snoc (l : List GIt) (x : GIt) : itCells (l ++ [x]) = itCells l ++ [itCell x] := by simp [itCells]
/-- Two parts at once. -/
def Two (r s : Res) : Res := ⟨r.fp ++ s.fp, fun W => r.ok W ∧ s.ok W, fun W W' h ho => ⟨r.loc W W' (fun k hk => h k (List.mem_append_left _ hk)) ho.1, s.loc W W' (fun k hk => h k (List.mem_append_right _ hk)) ho.2⟩, fun W h k hk => by
  rcases List.mem_append.1 hk with hk | hk
  · exact r.cel W h.1 k hk
  · exact s.cel W h.2 k hk⟩
theorem St.split {w W : World} {L : List Res} {Fs : List (World → Prop)} {r s : Res} (h : St w W (Two r s :: L) Fs) (hd : ∀ k ∈ r.fp, k ∉ s.fp) : St w W (r :: s :: L) Fs := by
  have ho := h.own (Two r s) (List.mem_cons_self ..)
  refine ⟨h.below, ?_, ?_, ?_⟩
  · intro q hq
    rcases List.mem_cons.1 hq with rfl | hq
    · exact ⟨ho.1.1, fun k hk => ho.2 k (List.mem_append_left _ hk)⟩
    · rcases List.mem_cons.1 hq with rfl | hq
      · exact ⟨ho.1.2, fun k hk => ho.2 k (List.mem_append_right _ hk)⟩
      · exact h.own q (List.mem_cons_of_mem _ hq)
  · have key : ∀ (j : Nat) (q : Res), L[j]? = some q → (∀ k ∈ r.fp, k ∉ q.fp) ∧ ∀ k ∈ s.fp, k ∉ q.fp := fun j q hj =>
      ⟨fun k hk => h.apart 0 (j + 1) _ q rfl (by simpa using hj) (by omega) k (List.mem_append_left _ hk), fun k hk => h.apart 0 (j + 1) _ q rfl (by simpa using hj) (by omega) k (List.mem_append_right _ hk)⟩
    intro i j p q hi hj hij k hk hk'
    match i, j, hi, hj with
    | 0, 0, _, _ => exact hij rfl
    | 0, 1, hi, hj => simp at hi hj; subst hi hj; exact hd k hk hk'
    | 1, 0, hi, hj => simp at hi hj; subst hi hj; exact hd k hk' hk
    | 1, 1, _, _ => exact hij rfl
    | 0, j + 2, hi, hj => simp at hi; subst hi; exact (key j q (by simpa using hj)).1 k hk hk'
    | 1, j + 2, hi, hj => simp at hi; subst hi; exact (key j q (by simpa using hj)).2 k hk hk'
    | i + 2, 0, hi, hj => simp at hj; subst hj; exact (key i p (by simpa using hi)).1 k hk' hk
    | i + 2, 1, hi, hj => simp at hj; subst hj; exact (key i p (by simpa using hi)).2 k hk' hk
    | i + 2, j + 2, hi, hj => exact h.apart (i + 1) (j + 1) p q (by simpa using hi) (by simpa using hj) (by omega) k hk hk'
  · intro F hF
    refine (h.facts F hF).mono ?_
    rintro k ⟨q, hq, hm⟩
    rcases List.mem_cons.1 hq with rfl | hq
    · exact ⟨Two q s, List.mem_cons_self .., List.mem_append_left _ hm⟩
    · rcases List.mem_cons.1 hq with rfl | hq
      · exact ⟨Two r q, List.mem_cons_self .., List.mem_append_right _ hm⟩
      · exact ⟨q, List.mem_cons_of_mem _ hq, hm⟩

section
variable {w W W' : World} {L : List Res} {Fs : List (World → Prop)}
theorem St.initH {c : Nat × Nat} (h : St w W L Fs) (hi : InitH 37 c W W') : St w W' (Blk c.1 [.int .i64 0] 3 :: Blk c.2 [.slice none 0 0] 37 :: L) Fs := by
  refine (h.new (r := Two (Blk c.1 [.int .i64 0] 3) (Blk c.2 [.slice none 0 0] 37)) hi.below ⟨hi.one, hi.two⟩ ?_).split ?_
  · intro k hk
    rcases List.mem_append.1 hk with hk | hk
    · simp [Blk] at hk; subst hk; exact ⟨hi.ge1, blk_lt hi.one⟩
    · simp [Blk] at hk; subst hk; exact ⟨hi.ge2, blk_lt hi.two⟩
  · intro k hk hk'
    simp [Blk] at hk hk'
    exact hi.ne (hk.symm.trans hk')
end
/-- What Read has in the loop. -/
def RdL (q : Nat × Nat) (i : Int) (u : Value) (A : Option Addr) (c bb b2 b3 b4 b5 : Nat) (v : Value) (n3 : Int) (pre : List GIt) : List Res :=
  [Blk q.1 [.int .i64 i] 3, Blk q.2 [u] 37, Row (.slice A pre.length c) 37 1 pre.length (itCells pre), Blk bb [v] 28, Blk b5 [.int .i64 (endI pre)] 3, Blk b4 [.slice A pre.length c] 22, Blk b3 [.int .u64 n3] 26, Blk b2 [v] 28]
def RdSt (w : World) (bb b2 b3 b4 b5 : Nat) (v : Value) (xs : List UInt8) (n3 : Int) (q : Nat × Nat) (pre : List GIt) (W : World) : Prop :=
  ∃ (i : Int) (u : Value) (A : Option Addr) (c hi : Nat), hi ≤ W.heap.size ∧ St w W (RdL q i u A c bb b2 b3 b4 b5 v n3 pre) [GsOwn w.heap.size hi pre, fun V => HB V v xs]
def RdI (w : World) (bb b2 b3 b4 b5 : Nat) (v : Value) (xs : List UInt8) (num : Nat) (q : Nat × Nat) (pre : List GIt) (W : World) : Prop :=
  RdSt w bb b2 b3 b4 b5 v xs ((num + pre.length : Nat) : Int) q pre W ∧ RdTo xs num (strip pre) (endI pre) ∧ num + pre.length < 18446744073709551616 ∧ 13 * pre.length ≤ endI pre
def RdX (w : World) (bb b2 b3 b4 b5 : Nat) (v : Value) (xs : List UInt8) (num : Nat) (q : Nat × Nat) (W : World) : Prop :=
  ∃ (pr : List GIt) (n3 : Int) (m : Nat), RdSt w bb b2 b3 b4 b5 v xs n3 q pr W ∧ endI pr = (m : Int) ∧ ReadP xs num (strip pr) m
/-- .. with an item, at a round's start. -/
def RdA (w : World) (bb b2 b3 b4 b5 : Nat) (v : Value) (xs : List UInt8) (num : Nat) (q : Nat × Nat) (pre : List GIt) (x : GIt) (W : World) : Prop :=
  ∃ (i : Int) (u : Value) (A : Option Addr) (c hi B T : Nat), hi ≤ B ∧ B ≤ T ∧ T ≤ W.heap.size ∧ St w W (RdL q i u A c bb b2 b3 b4 b5 v ((num + pre.length : Nat) : Int) pre) [GOwn B T (.slice x.A x.l.length x.c) x.l, GsOwn w.heap.size hi pre, fun V => HB V v xs] ∧ RdTo xs num (strip pre) (endI pre) ∧ num + pre.length < 18446744073709551616 ∧ 13 * pre.length ≤ endI pre
section
variable {w : World} {bb b2 b3 b4 b5 : Nat} {v : Value} {xs : List UInt8} {num : Nat}
theorem RdSt.own {B : Nat} (hB : w.heap.size ≤ B) (n3 : Int) (q : Nat × Nat) : OwnFrom B (RdSt w bb b2 b3 b4 b5 v xs n3 q) := by
  rintro pre X Y row ⟨i, u, A, c, hi, hz, hs⟩ hg hr
  exact ⟨i, u, A, c, hi, Nat.le_trans hz hg.size, hs.book hg (fun r e => ⟨Nat.le_trans hB (hr r e).1, (hr r e).2⟩)⟩
theorem RdSt.bear {n3 : Int} {q : Nat × Nat} {pre : List GIt} {X Y : World} (h : RdSt w bb b2 b3 b4 b5 v xs n3 q pre X) (ht : TurnsH 37 q X Y) : RdSt w bb b2 b3 b4 b5 v xs n3 q pre Y := by
  obtain ⟨i, u, A, c, hi, hz, hs⟩ := h
  obtain ⟨i', u', hs'⟩ := hs.turnH (i1 := 0) (i2 := 1) rfl rfl (by decide) ht
  exact ⟨i', u', A, c, hi, Nat.le_trans hz ht.oth.size, hs'⟩
theorem RdI.own {B : Nat} (hB : w.heap.size ≤ B) (q : Nat × Nat) : OwnFrom B (RdI w bb b2 b3 b4 b5 v xs num q) := fun pre X Y row h hg hr => ⟨RdSt.own hB _ q pre X Y row h.1 hg hr, h.2⟩
theorem RdI.bear : BearsH 37 (RdI w bb b2 b3 b4 b5 v xs num) := fun _ _ _ _ h ht => ⟨h.1.bear ht, h.2⟩
theorem RdX.own {B : Nat} (hB : w.heap.size ≤ B) (q : Nat × Nat) : OwnFrom B (fun (_ : List GIt) => RdX w bb b2 b3 b4 b5 v xs num q) := by
  rintro _ X Y row ⟨pr, n3, m, h1, h2⟩ hg hr
  exact ⟨pr, n3, m, RdSt.own hB _ q pr X Y row h1 hg hr, h2⟩
theorem RdX.bear {q : Nat × Nat} {X Y : World} (h : RdX w bb b2 b3 b4 b5 v xs num q X) (ht : TurnsH 37 q X Y) : RdX w bb b2 b3 b4 b5 v xs num q Y := by
  obtain ⟨pr, n3, m, h1, h2⟩ := h
  exact ⟨pr, n3, m, h1.bear ht, h2⟩
theorem RdA.own {B : Nat} (hB : w.heap.size ≤ B) (q : Nat × Nat) (pre : List GIt) (x : GIt) : OwnFrom B (fun (_ : Unit) => RdA w bb b2 b3 b4 b5 v xs num q pre x) := by
  rintro _ X Y row ⟨i, u, A, c, hi, b, t, z1, z2, z3, hs, h2⟩ hg hr
  exact ⟨i, u, A, c, hi, b, t, z1, z2, Nat.le_trans z3 hg.size, hs.book hg (fun r e => ⟨Nat.le_trans hB (hr r e).1, (hr r e).2⟩), h2⟩
theorem RdA.of {q : Nat × Nat} {pre : List GIt} {x : GIt} {X Y : World} (h : RdI w bb b2 b3 b4 b5 v xs num q pre X) (ht : TurnsH 37 q X Y) (hx : ItNew x X Y) : RdA w bb b2 b3 b4 b5 v xs num q pre x Y := by
  obtain ⟨⟨i, u, A, c, hi, hz, hs⟩, h2⟩ := h
  obtain ⟨i', u', hs'⟩ := hs.turnH (i1 := 0) (i2 := 1) rfl rfl (by decide) ht
  refine ⟨i', u', A, c, hi, X.heap.size, Y.heap.size, hz, ht.oth.size, Nat.le_refl _, hs'.addF (hx.mono fun k hk => ?_), h2⟩
  refine (hs.key_lt (k := k) ?_).2
  obtain ⟨r, hr, hm⟩ := hk
  simp [RdL, Blk, Row] at hr
  rcases hr with rfl | rfl | rfl | rfl | rfl | rfl | rfl | rfl
  · exact ⟨Blk q.1 [.int .i64 i] 3, by simp [RdL], hm⟩
  · exact ⟨Blk q.2 [u] 37, by simp [RdL], hm⟩
  · exact ⟨Row (.slice A pre.length c) 37 1 pre.length (itCells pre), by simp [RdL], hm⟩
  · exact ⟨Blk bb [v] 28, by simp [RdL], hm⟩
  · exact ⟨Blk b5 [.int .i64 (endI pre)] 3, by simp [RdL], hm⟩
  · exact ⟨Blk b4 [.slice A pre.length c] 22, by simp [RdL], hm⟩
  · exact ⟨Blk b3 [.int .u64 ((num + pre.length : Nat) : Int)] 26, by simp [RdL], hm⟩
  · exact ⟨Blk b2 [v] 28, by simp [RdL], hm⟩
end
theorem run_cut37hm (A : Option Addr) (n c k : Nat) (hk : k ≤ n) (hn : n ≤ c) (W : World) :
    (Instr.slice 37 (.slice A n c) none (some (.int .i64 (k : Int))) (some (.int .i64 (k : Int)))).run Try.prog W = .ok (.slice A k k) W := by
  have ht' : Try.prog.underlying 37 = some (.slice (Try.prog.elem 37)) := by simp [Program.elem, Try.underlying37]
  have he : Try.prog.elem 37 = 48 := by simp [Program.elem, Try.underlying37]
  have hz : ∀ w, (Go.sizeOf 48).run Try.prog w = .ok 2 w := fun w => by kernel_rfl
  rw [run_slice_hm W 37 _ _ _ ht' .i64 .i64 _ _ (by omega) (by omega) (by omega), he, hz]
  cases A <;> simp [Result.andThen, sliced, Addr.add]
theorem run_sl37 {W : World} {o : Oper} {ev : Operand → Value} {x y z : Operand} {A : Option Addr} {n c : Nat} (k : Nat) (ho : o.op = .slice 37 x none (some y) (some z)) (hx : ev x = .slice A n c) (hy : ev y = .int .i64 (k : Int)) (hz : ev z = .int .i64 (k : Int)) (hk : k ≤ n) (hn : n ≤ c) : (execOp ev o).run Try.prog W = .ok (.value (.slice A k k)) W := by
  have h := run_cut37hm A n c k hk hn W
  unfold execOp
  simp only [ho, hx, hy, hz, Instr.sliceAt, run_underlying Try.underlying37, Option.map_some, Option.map_none, Sem.run_bind, Sem.run_pure, Result.andThen_ok, h]
end
end Go.Proofs.Ytakeggdpnfibpaa
