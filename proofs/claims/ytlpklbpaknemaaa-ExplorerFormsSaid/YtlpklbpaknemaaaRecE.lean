/- Contracts and words that the laws stand on (RecE). -/
import Derived.Test.YtlpklbpaknemaaaRecD
set_option linter.unusedVariables false
set_option linter.unusedSimpArgs false
namespace Go.Proofs.Ytlpklbpaknemaaa
section
open Go Go.RowKit Go.Proofs
attribute [local go_sem] Oper.semAt_some
attribute [local irreducible] Calls

theorem z31 : zeroIs Try.prog 31 (.slice none 0 0) := by unfold zeroIs; kernel_rfl
theorem z3c : zeroIs Try.prog 3 (.int .i64 0) := by unfold zeroIs; kernel_rfl
def rcells (l : List RecI) : List Value := l.flatMap fun x => [.int .i64 (x.k.toNat : Int), x.v]
def nxOf (i : Int) (l : List RecI) : Int := (l.getLast?.map (·.nx)).getD i
def Pays (B : Nat) (l : List RecI) (W : World) : Prop := ∀ x ∈ l, W.ownsRow B 5 1 x.v x.p.length (bs x.p)
def AllSt (w : World) (A : Option Addr) (c b1 b2 b3 b4 b5 : Nat) (xs : List UInt8) (i : Int) (pre : List RecI) (W : World) : Prop :=
  ∃ (j : Int) (u : Value), St w W [Row u 25 2 pre.length (rcells pre), Blk b3 [.int .i64 j] 3, Blk b2 [.slice A xs.length c] 22, Blk b5 [.int .i64 (nxOf i pre)] 3, Blk b4 [u] 31, Blk b1 [.slice A xs.length c] 22] [Pays w.heap.size pre, fun W => HB W (.slice A xs.length c) xs]
def AllIn (w : World) (A : Option Addr) (c b1 b2 b3 b4 b5 : Nat) (xs : List UInt8) (i : Int) (pre : List RecI) (x : RecI) (b7 : Nat) (W : World) : Prop :=
  ∃ (j : Int) (u : Value), St w W [Blk b7 [.int .i64 (x.k.toNat : Int), x.v] 25, Row u 25 2 pre.length (rcells pre), Blk b3 [.int .i64 j] 3, Blk b2 [.slice A xs.length c] 22, Blk b5 [.int .i64 (nxOf i pre)] 3, Blk b4 [u] 31, Blk b1 [.slice A xs.length c] 22] [Pays w.heap.size (pre ++ [x]), fun W => HB W (.slice A xs.length c) xs]
section
variable {w : World} {A : Option Addr} {c b1 b2 b3 b4 b5 : Nat} {xs : List UInt8} {i : Int}
theorem AllSt.own {B : Nat} (hB : w.heap.size ≤ B) : OwnFrom B (AllSt w A c b1 b2 b3 b4 b5 xs i) := by
  rintro pre X Y row ⟨j, u, hs⟩ hg hr
  exact ⟨j, u, hs.book hg (fun r e => ⟨Nat.le_trans hB (hr r e).1, (hr r e).2⟩)⟩
theorem AllSt.bears : Bears b3 (AllSt w A c b1 b2 b3 b4 b5 xs i) := by
  rintro pre X Y ⟨j, u, hs⟩ ⟨hc, k, hk⟩
  exact ⟨k, u, hs.upd (i := 1) (r' := Blk b3 [.int .i64 k] 3) rfl hc hk (fun q hq => ⟨.inl hq, by simp [Blk] at hq; subst hq; exact blk_lt hk⟩)⟩
theorem Away.row {K : Nat → Prop} {W : World} {B : Nat} {E : TypeId} {s n : Nat} {v : Value} {l : List Value} (ho : W.ownsRow B E s v n l) (hk : ∀ k, v.ownBlock = some k → ¬ K k) : Away K (fun W => W.ownsRow B E s v n l) W := fun W' hs =>
  own_block ho (fun k hkv => by
    obtain ⟨o, h1, h2⟩ := (Row v E s n l).cel W (own_base ho (fun _ _ => Nat.zero_le _)) k (by simp [Row, hkv])
    rw [h1]; exact hs.blk k o (hk k hkv) h1 h2)
theorem run_loadVar1 {P : Program} {w : World} {t : TypeId} (h : scal P t = true) {p : Addr} {v : Value} (hc : w.cell? p = some v) : (loadVar t p).run P w = .ok v w := by
  simp only [loadVar, Sem.run_bind, scal_agg h, Result.andThen_ok]
  simp [go_sem, hc]
theorem ret_cc2 {P : Program} {w : World} {fn : Func} {p q : Tmp} {tp tq : TypeId} (h : fn.results = #[.cell p tp, .cell q tq]) (tmps : Array Value) (g k : Nat) (u x : Value) (hp : tmps.getD p undef = .pointer (some ⟨g, 0, none⟩)) (hq : tmps.getD q undef = .pointer (some ⟨k, 0, none⟩)) (hsp : scal P tp = true) (hsq : scal P tq = true) (hg : w.cell? ⟨g, 0, none⟩ = some u) (hk : w.cell? ⟨k, 0, none⟩ = some x) :
    (results fn tmps).run P w = .ok (.tuple #[u, x]) w := by
  have hp' : tmps[p]?.getD undef = .pointer (some ⟨g, 0, none⟩) := by simpa using hp
  have hq' : tmps[q]?.getD undef = .pointer (some ⟨k, 0, none⟩) := by simpa using hq
  simp [results, h, hp', hq', asAddr, run_loadVar1 hsp hg, run_loadVar1 hsq hk]
theorem allF_end {xs : List UInt8} {f : Nat} : ∀ {i : Int} {l : List (UInt8 × List UInt8 × Int)} {x : UInt8 × List UInt8 × Int}, (l ++ [x]) <+: allF xs f i → x.2.2 = (xs.length : Int) → l ++ [x] = allF xs f i := by
  induction f with
  | zero => intro i l x h _; simp [allF] at h
  | succ f ih =>
    intro i l x h hx
    cases hd : decR xs i with
    | none => rw [allF_none hd] at h; simp at h
    | some kp =>
      obtain ⟨k, p⟩ := kp
      rw [allF_some hd] at h ⊢
      cases l with
      | nil =>
        simp only [List.nil_append, List.cons_prefix_cons, List.nil_prefix, and_true] at h
        subst h
        simp only at hx
        rw [hx, allF_none (decR_far (by omega))]
        rfl
      | cons y l =>
        simp only [List.cons_append, List.cons_prefix_cons] at h ⊢
        rw [h.1, ih h.2 hx]
theorem region_join0 {P : Program} {c : Code} {Q : Exit → Act → World → Prop} {a : Act} {w : World} {S : World → Prop} {a1 : Act} (hreg : c.wp P (fun e a' w' => e = .normal ∧ a' = a1 ∧ S w') a w) (hK : ∀ V, S V → Q .normal a1 V) : c.wp P Q a w :=
  Code.wp_mono (fun e a' w' h => by obtain ⟨rfl, rfl, hS⟩ := h; exact hK _ hS) hreg
theorem k_st {P : Program} {k0 w W : World} {L : List Res} {Fs : List (World → Prop)} {o : Oper} {a : Act} {K : Act → World → Prop} {Q : Exit → Act → World → Prop} {t T : TypeId} {b k : Nat} {l : List Value} {v : Value} {x y : Operand} (hS : Sk k0 w W L Fs) (i : Nat) (ho : o.op = .store t x y) (hx : a.eval x = .pointer (some ⟨b, k, none⟩)) (hi : L[i]? = some (Blk b l T)) (hs : scal P t = true) (hy : a.eval y = v) (h1 : v.oneCell' = true) (hk : k < l.length) (h : ∀ W', Sk k0 w W' (L.set i (Blk b (l.set k v) T)) Fs → K (a.put o.dst undef) W') : o.wp P a W K Q :=
  wp_of_skip (run_stc hs ho hx hy h1 (hS.st.cell hi (List.getElem?_eq_getElem hk)) (hS.st.free hi)) (h _ ⟨hS.st.setCell hi v, hS.oth.trans (KeepsOthers.setCell W _ v)⟩)
theorem rcells_snoc (l : List RecI) (x : RecI) : rcells (l ++ [x]) = rcells l ++ [.int .i64 (x.k.toNat : Int), x.v] := by simp [rcells]
theorem nxOf_snoc (i : Int) (l : List RecI) (x : RecI) : nxOf i (l ++ [x]) = x.nx := by simp [nxOf]
theorem kept_of {w W W' : World} {L L' : List Res} {Fs Gs : List (World → Prop)} {b2 b3 : Nat} {l2 l3 : List Value} {T2 T3 : TypeId} (h : St w W L Fs) (h' : St w W' L' Gs) (i j i' j' : Nat) (hi : L[i]? = some (Blk b2 l2 T2)) (hi' : L'[i']? = some (Blk b2 l2 T2)) (hj : L[j]? = some (Blk b3 l3 T3)) (hj' : L'[j']? = some (Blk b3 l3 T3)) : Kept w.heap.size b2 b3 W W' := by
  rintro k (rfl | rfl | hk)
  · rw [h.blk hi, h'.blk hi']
  · rw [h.blk hj, h'.blk hj']
  · rw [h.below.block k hk, h'.below.block k hk]
end
set_option maxHeartbeats 1000000 in
set_option maxRecDepth 100000 in
theorem all14 (v : Value) (xs : List UInt8) (i : Nat) (w : World) (h : HB w v xs) (hi : i ≤ xs.length) (hl : xs.length ≤ 1000000) :
    Calls Try.prog 14 #[v, .int .i64 (i : Int)] w fun e w' => ∃ (ys : List RecI) (u : Value), ys.map RecI.strip = allF xs (xs.length + 1) i ∧ e = .returned (.tuple #[u, .int .i64 (nxOf i ys)]) ∧ Below w.heap.size w w' ∧ w'.ownsRow w.heap.size 25 2 u ys.length (rcells ys) ∧ Pays w.heap.size ys w' := by
  have Hv := Lib.hid h
  obtain ⟨A, c, rfl, hlc⟩ := h.shape
  have HS := Lib.hid ((St.start w).addF h.away0)
  clear h
  have k1 : ¬ (i : Int) < 0 := by omega
  have k2 : ¬ (xs.length : Int) < (i : Int) := by omega
  refine (callsIn_wide (n := 3)).1 ?_
  refine callsIn_of_wp_marks Try.func14 rfl trivial ?_ rfl
  simp only [Try.ntmps14, List.size_toArray, List.length_cons, List.length_nil, Nat.reduceAdd, Nat.reduceSub, Array.replicate_succ, Array.replicate_zero, List.push_toArray, List.append_toArray, List.nil_append, List.cons_append]
  refine wpIn_wide.2 ?_
  go_wp2_with (first
    | (refine atd 2 (by rfl) ?_; refine wl (by rfl) (s_bx (l := [.slice A xs.length c]) HS.out (by rfl) (by rfl) ?_); intro b1 Wn hS; clear HS; have HS := Lib.hid hS; clear hS)
    | (refine atd 4 (by rfl) ?_; refine wl (by rfl) (s_al HS.out (by rfl) z31 (by rfl) ?_); intro b4 Wn hS; clear HS; have HS := Lib.hid hS; clear hS)
    | (refine atd 5 (by rfl) ?_; refine wl (by rfl) (s_al HS.out (by rfl) z3c (by rfl) ?_); intro b5 Wn hS; clear HS; have HS := Lib.hid hS; clear hS))
  go_step3
  go_wp2_with (first
    | (refine wl (by rfl) (s_ld HS.out 2 (by rfl) (by rfl) (by rfl) (by kernel_rfl) (by rfl) ?_))
    | (refine wl (by rfl) (s_st (v := .int .i64 (i : Int)) HS.out 0 (by rfl) (by rfl) (by rfl) (by kernel_rfl) (by rfl) (by rfl) (by decide) ?_); intro Wn hS; clear HS; have HS := Lib.hid hS; clear hS))
  go_step3
  go_wp2_with (first
    | (refine wl (by rfl) (s_ld HS.out 2 (by rfl) (by rfl) (by rfl) (by kernel_rfl) (by rfl) ?_))
    | (go_at_call 40; refine (each40 A xs.length c i _).mono ?_; rintro e Wn ⟨b2, b3, rfl, hb⟩; have hS := HS.out.join hb; clear hb; clear HS; have HS := Lib.hid hS; clear hS))
  have hv0 : HB Wn (.slice A xs.length c) xs := HS.out.fact (i := 0) rfl
  have hb2 : Wn.heap[b2]? = some (.cells #[.slice A xs.length c] 22 (0, 0)) := HS.out.blk (i := 1) rfl
  have hb3 : Wn.heap[b3]? = some (.cells #[.int .i64 (i : Int)] 3 (0, 0)) := HS.out.blk (i := 0) rfl
  have h23 : b2 ≠ b3 := fun e => HS.out.apart 0 1 _ _ rfl rfl (by decide) b3 (by simp [Blk]) (by simp [Blk, e])
  have hvm : xs ≠ [] → ∀ k, (Value.slice A xs.length c).ownBlock = some k → k < w.heap.size := fun e k hk => by obtain ⟨q, h1, h2⟩ := Hv.out.lt e; rw [h1] at hk; injection hk with hk; omega
  have hm3 : w.heap.size ≤ b3 := ((HS.out.own _ (List.mem_of_getElem? (i := 0) rfl)).2 b3 (by simp [Blk])).1
  have hm2 : w.heap.size ≤ b2 := ((HS.out.own _ (List.mem_of_getElem? (i := 1) rfl)).2 b2 (by simp [Blk])).1
  have hlt3 : b3 < Wn.heap.size := blk_lt hb3
  have hlt2 : b2 < Wn.heap.size := blk_lt hb2
  have hbz := HS.out.below.size
  have hS0 : AllSt w A c b1 b2 b3 b4 b5 xs i [] Wn := by
    have h1 := HS.out.new (Below.refl _ _) (r := Row (.slice none 0 0) 25 2 0 []) (World.ownsRow_nil _ _ _ _) (fun k hk => by simp [Row, Value.ownBlock] at hk)
    exact ⟨_, _, h1.addF (F := Pays w.heap.size []) (fun _ _ x hx => by cases hx)⟩
  refine (wpIn_wide (n := 3)).1 ?_
  refine wpIn_range_G1 (n := 3) rfl (by omega) (gf := 67) (lb := #[.pointer (some ⟨b2, 0, none⟩), .pointer (some ⟨b3, 0, none⟩)]) rfl trivial (enters_of Try.func67 (by kernel_rfl) rfl)
    (each1_in 2 w.heap.size b2 b3 (by omega) (.slice A xs.length c) xs (i : Int) Wn hb2 hb3 h23 hv0 hvm hm3 hl) hlt3 (Keeps.refl _ _) ?hKa Keeps.trans ?hKb (Below.refl _ _) (fun _ => rfl)
    (AllSt w A c b1 b2 b3 b4 b5 xs i) (fun c' pre W => c' = .exit 0 ∧ nxOf i pre = (xs.length : Int) ∧ AllSt w A c b1 b2 b3 b4 b5 xs i pre W) ?hI ?hIx ?hIb ?hIxb hS0
    ?a1 (fun pre x (b7 : Nat) W => AllIn w A c b1 b2 b3 b4 b5 xs i pre x b7 W) ?hAy ?assign ?body ?done ?stop
  case hKa =>
    rintro W o hW k hk
    exact Below.heap_alloc _ _ _ (by rcases hk with rfl | rfl | hk <;> omega)
  case hKb =>
    rintro W l o o' hl' _ _ k hk
    refine World.putObj_heap_other ?_
    rcases hk with rfl | rfl | hk <;> omega
  case hI => exact AllSt.own hbz
  case hIx => exact fun _ s X Y row hs hg hr => ⟨hs.1, hs.2.1, AllSt.own hbz s X Y row hs.2.2 hg hr⟩
  case hIb => exact AllSt.bears
  case hIxb => exact fun _ s X Y hs ht => ⟨hs.1, hs.2.1, AllSt.bears s X Y hs.2.2 ht⟩
  case hAy =>
    rintro pre x b7 _ X Y row ⟨j, u, hs⟩ hg hr
    exact ⟨j, u, hs.book hg (fun r e => ⟨Nat.le_trans hbz (hr r e).1, (hr r e).2⟩)⟩
  case assign =>
    rintro l pre x W0 W K hI hT hR hn hK
    obtain ⟨j0, u, hs0⟩ := hI
    obtain ⟨hch, j, hj3⟩ := hT
    have hs : St w W [Row u 25 2 pre.length (rcells pre), Blk b3 [.int .i64 j] 3, Blk b2 [.slice A xs.length c] 22, Blk b5 [.int .i64 (nxOf i pre)] 3, Blk b4 [u] 31, Blk b1 [.slice A xs.length c] 22] [Pays w.heap.size pre, fun W => HB W (.slice A xs.length c) xs] := hs0.upd (i := 1) (r' := Blk b3 [.int .i64 j] 3) rfl hch hj3 (fun q hq => ⟨.inl hq, by simp [Blk] at hq; subst hq; exact blk_lt hj3⟩)
    have hp : Away (Keys [Row u 25 2 pre.length (rcells pre), Blk b3 [.int .i64 j] 3, Blk b2 [.slice A xs.length c] 22, Blk b5 [.int .i64 (nxOf i pre)] 3, Blk b4 [u] 31, Blk b1 [.slice A xs.length c] 22]) (Pays w.heap.size (pre ++ [x])) W := by
      intro V hV y hy
      rcases List.mem_append.1 hy with hy | hy
      · exact hs.facts _ (List.mem_cons_self ..) V hV y hy
      · simp only [List.mem_singleton] at hy
        subst hy
        refine Away.row (own_base hR (fun k hk => Nat.le_trans hs0.below.size (hR.lt k hk).1)) (fun k hk hK' => ?_) V hV
        have h1 := (hR.lt k hk).1
        have h2 := (hs0.key_lt (k := k) (by simpa [Keys, Blk, Row] using hK')).2
        omega
    have hs1 := (hs.addF hp).dropF (Gs := [Pays w.heap.size (pre ++ [x]), fun W => HB W (.slice A xs.length c) xs]) (fun G hG => by simp only [List.mem_cons, List.not_mem_nil, or_false] at hG ⊢; rcases hG with h | h; exact .inl h; exact .inr (.inr h))
    have hv1 : x.v.oneCell' = true := by obtain ⟨A1, c1, e⟩ := own_slice hR; rw [e]; rfl
    have HV1 := Lib.hid hv1; clear hv1
    have HS0 := Lib.hid hs1
    have HSo := Lib.hid hs
    clear hs hs0 hp hch hj3 hR
    have HS := Lib.hid hs1.sk
    clear hs1
    dsimp only [encR]
    gi_wp2_with (first
      | (refine il (by rfl) (i_al HS.out (by rfl) z25 (by rfl) ?_); intro b7 Wn hS; clear HS; have HS := Lib.hid hS; clear hS)
      | (refine il (by rfl) (i_sta (cs := [.int .i64 (x.k.toNat : Int), x.v]) HS.out 0 2 (by rfl) (by rfl) (by rfl) ag25 (by rfl) (by rfl) (by intro v hv; simp at hv; rcases hv with rfl | rfl; rfl; exact HV1.out) (by decide) ?_); intro Wn hS; clear HS; have HS := Lib.hid hS; clear hS))
    exact hK b7 _ (HS.out.oth.from _) (kept_of HS0.out HS.out.st 2 1 3 2 rfl rfl rfl rfl) ⟨j, u, ((HS.out.st.sub 0).more 0 rfl (fun W h y hy => h y (List.mem_append_left _ hy))).dropF (fun G hG => by simp only [List.mem_cons, List.not_mem_nil, or_false] at hG ⊢; rcases hG with h | h; exact .inl h; exact .inr (.inr h))⟩ ⟨j, u, HS.out.st⟩
  case body =>
    rintro l pre x b7 W ⟨j, u, hs⟩ hn
    have HS0 := Lib.hid hs
    have HN := Lib.hid hn
    have hv1 : x.v.oneCell' = true := by
      have hp : Pays w.heap.size (pre ++ [x]) W := hs.fact (i := 0) rfl
      obtain ⟨A1, c1, e⟩ := own_slice (hp x (by simp)); rw [e]; rfl
    have HV1 := Lib.hid hv1; clear hv1
    have HS := Lib.hid hs.sk
    clear hs hn
    by_cases hq : x.nx = (xs.length : Int)
    · have hnx : nxOf (i : Int) (pre ++ [x]) = (xs.length : Int) := by rw [nxOf_snoc]; exact hq
      have HNX := Lib.hid hnx; clear hnx
      gi_wp2_with (first
        | (refine itd 22 (by rfl) ?_; refine il (by rfl) (i_ld HS.out 5 (by rfl) (by rfl) (by rfl) (by kernel_rfl) (by rfl) ?_))
        | (refine itd 23 (by rfl) ?_; refine il (by rfl) (i_lda (cs := [.int .i64 (x.k.toNat : Int), x.v]) HS.out 0 2 (by rfl) (by rfl) (by rfl) ag25 (by rfl) (by rfl) ?_))
        | (refine il (by rfl) (i_bs (E := 25) (z := .agg #[.int .i64 0, .slice none 0 0]) HS.out 1 2 [.int .i64 (x.k.toNat : Int), x.v] (by rfl) Try.underlying31 (by kernel_rfl) (by rfl) (by decide) (by decide) (by kernel_rfl) (by rfl) (by decide) ?_); intro b8 Wn hS; clear HS; have HS := Lib.hid hS; clear hS)
        | (refine il (by rfl) (i_rows (z := .agg #[.int .i64 0, .slice none 0 0]) (bytes := 32) HS.out 2 0 (by rfl) (by rfl) Try.underlying31 (by kernel_rfl) (by rfl) (by decide) (by rfl) (by rfl) (by rfl) (by rfl) (by intro v hv; simp at hv; rcases hv with rfl | rfl; rfl; exact HV1.out) (by have := HN.out; omega) (by have := HN.out; omega) ?_); intro v9 Wn hS; obtain ⟨A2, c2, rfl⟩ := Row.sl (hS.st.res (i := 2) rfl); clear HS; have HS := Lib.hid hS; clear hS)
        | (refine il (by rfl) (i_st (v := .slice A2 (pre.length + 1) c2) HS.out 6 (by rfl) (by rfl) (by rfl) (by kernel_rfl) (by rfl) (by rfl) (by exact Nat.zero_lt_one) ?_); intro Wn hS; clear HS; have HS := Lib.hid hS; clear hS)
        | (refine il (by rfl) (i_st (v := .int .i64 (xs.length : Int)) HS.out 5 (by rfl) (by rfl) (by rfl) (by kernel_rfl) (by rfl) (by rfl) (by exact Nat.zero_lt_one) ?_); intro Wn hS; clear HS; have HS := Lib.hid hS; clear hS)
        | (refine itd 27 (by rfl) ?_; refine il (by rfl) (i_ld HS.out 5 (by rfl) (by rfl) (by rfl) (by kernel_rfl) (by rfl) ?_))
        | (refine itd 28 (by rfl) ?_; refine il (by rfl) (i_ld HS.out 7 (by rfl) (by rfl) (by rfl) (by kernel_rfl) (by rfl) ?_)))
      refine ⟨HS.out.oth.from _, kept_of HS0.out HS.out.st 3 2 4 3 rfl rfl rfl rfl, HNX.out, j, .slice A2 (pre.length + 1) c2, ?_⟩
      have h1 := (HS.out.st.sub 0).sub 0
      rw [HNX.out, rcells_snoc, List.length_append]
      exact h1
    · have hnx : nxOf (i : Int) (pre ++ [x]) = x.nx := nxOf_snoc _ _ _
      have HNX := Lib.hid hnx; clear hnx
      gi_wp2_with (first
        | (refine itd 22 (by rfl) ?_; refine il (by rfl) (i_ld HS.out 5 (by rfl) (by rfl) (by rfl) (by kernel_rfl) (by rfl) ?_))
        | (refine itd 23 (by rfl) ?_; refine il (by rfl) (i_lda (cs := [.int .i64 (x.k.toNat : Int), x.v]) HS.out 0 2 (by rfl) (by rfl) (by rfl) ag25 (by rfl) (by rfl) ?_))
        | (refine il (by rfl) (i_bs (E := 25) (z := .agg #[.int .i64 0, .slice none 0 0]) HS.out 1 2 [.int .i64 (x.k.toNat : Int), x.v] (by rfl) Try.underlying31 (by kernel_rfl) (by rfl) (by decide) (by decide) (by kernel_rfl) (by rfl) (by decide) ?_); intro b8 Wn hS; clear HS; have HS := Lib.hid hS; clear hS)
        | (refine il (by rfl) (i_rows (z := .agg #[.int .i64 0, .slice none 0 0]) (bytes := 32) HS.out 2 0 (by rfl) (by rfl) Try.underlying31 (by kernel_rfl) (by rfl) (by decide) (by rfl) (by rfl) (by rfl) (by rfl) (by intro v hv; simp at hv; rcases hv with rfl | rfl; rfl; exact HV1.out) (by have := HN.out; omega) (by have := HN.out; omega) ?_); intro v9 Wn hS; obtain ⟨A2, c2, rfl⟩ := Row.sl (hS.st.res (i := 2) rfl); clear HS; have HS := Lib.hid hS; clear hS)
        | (refine il (by rfl) (i_st (v := .slice A2 (pre.length + 1) c2) HS.out 6 (by rfl) (by rfl) (by rfl) (by kernel_rfl) (by rfl) (by rfl) (by exact Nat.zero_lt_one) ?_); intro Wn hS; clear HS; have HS := Lib.hid hS; clear hS)
        | (refine il (by rfl) (i_st (v := .int .i64 x.nx) HS.out 5 (by rfl) (by rfl) (by rfl) (by kernel_rfl) (by rfl) (by rfl) (by exact Nat.zero_lt_one) ?_); intro Wn hS; clear HS; have HS := Lib.hid hS; clear hS)
        | (refine itd 27 (by rfl) ?_; refine il (by rfl) (i_ld HS.out 5 (by rfl) (by rfl) (by rfl) (by kernel_rfl) (by rfl) ?_))
        | (refine itd 28 (by rfl) ?_; refine il (by rfl) (i_ld HS.out 7 (by rfl) (by rfl) (by rfl) (by kernel_rfl) (by rfl) ?_)))
      refine ⟨HS.out.oth.from _, kept_of HS0.out HS.out.st 3 2 4 3 rfl rfl rfl rfl, j, .slice A2 (pre.length + 1) c2, ?_⟩
      have h1 := (HS.out.st.sub 0).sub 0
      rw [HNX.out, rcells_snoc, List.length_append]
      exact h1
  case done =>
    rintro D ys W hD hE hS hK
    obtain ⟨j, u, hs⟩ := hS
    obtain ⟨A2, c2, rfl⟩ := Row.sl (hs.res (i := 0) rfl)
    clear HS
    have HS := Lib.hid hs.sk
    have HK := Lib.hid hK
    have HD := Lib.hid (Nat.le_trans hbz hD)
    have HE := Lib.hid hE
    clear hs hK hD hE
    simp only [Exit.inBlock]
    go_wp2_with fail
    apply region_join0 (S := fun V => Sk W w V [Row (.slice A2 ys.length c2) 25 2 ys.length (rcells ys), Blk b3 [.int .i64 j] 3, Blk b2 [.slice A xs.length c] 22, Blk b5 [.int .i64 (nxOf i ys)] 3, Blk b4 [.slice A2 ys.length c2] 31, Blk b1 [.slice A xs.length c] 22] [Pays w.heap.size ys, fun W => HB W (.slice A xs.length c) xs])
    case hreg =>
      refine wp_region_tr (.yield 0 (.yield 1 (.act 2 (.act 3 .done .none) .none))) (by kernel_rfl) (by kernel_rfl) (by kernel_rfl) (fun _ _ _ _ _ h => absurd h.1 (by simp)) (fun w' => Sk W w w' [Row (.slice A2 ys.length c2) 25 2 ys.length (rcells ys), Blk b3 [.int .i64 j] 3, Blk b2 [.slice A xs.length c] 22, Blk b5 [.int .i64 (nxOf i ys)] 3, Blk b4 [.slice A2 ys.length c2] 31, Blk b1 [.slice A xs.length c] 22] [Pays w.heap.size ys, fun W => HB W (.slice A xs.length c) xs]) HS.out.drew ?_
      intro OPS hops
      have hS := HS.out.drew
      have HS := Lib.hid hS; clear hS
      refine wpT_yield _ (by rw [hops.out]; simp only [List.getElem?_toArray, List.getElem?_cons_succ, List.getElem?_cons_zero]; rfl) (by first | rfl | (rw [hops.out]; rfl)) (fun w' hS => by first | exact run_ld (by kernel_rfl) (by rfl) (by rfl) (hS.st.cell (i := 4) rfl (by rfl)) | exact run_ld (by kernel_rfl) (by rfl) (by rfl) (hS.st.cell (i := 3) rfl (by rfl)) | (go_simp; rfl)) ?_
      simp only [Act.put, List.setIfInBounds_toArray, List.set_cons_succ, List.set_cons_zero]
      refine wpT_yield _ (by rw [hops.out]; simp only [List.getElem?_toArray, List.getElem?_cons_succ, List.getElem?_cons_zero]; rfl) (by first | rfl | (rw [hops.out]; rfl)) (fun w' hS => by first | exact run_ld (by kernel_rfl) (by rfl) (by rfl) (hS.st.cell (i := 4) rfl (by rfl)) | exact run_ld (by kernel_rfl) (by rfl) (by rfl) (hS.st.cell (i := 3) rfl (by rfl)) | (go_simp; rfl)) ?_
      simp only [Act.put, List.setIfInBounds_toArray, List.set_cons_succ, List.set_cons_zero]
      refine wpT_act (by rw [hops.out]; simp only [List.getElem?_toArray, List.getElem?_cons_succ, List.getElem?_cons_zero]; rfl) (by first | rfl | (rw [hops.out]; rfl)) ?_ trivial
      refine k_st (v := (.slice A2 ys.length c2)) HS.out 4 (by rfl) (by rfl) (by rfl) (by kernel_rfl) (by rfl) (by rfl) (by exact Nat.zero_lt_one) ?_
      intro Wn hS
      have HS := Lib.hid hS; clear hS
      refine ⟨HS.out, ?_⟩
      try simp only [Act.put, List.setIfInBounds_toArray, List.set_cons_succ, List.set_cons_zero]
      refine wpT_act (by rw [hops.out]; simp only [List.getElem?_toArray, List.getElem?_cons_succ, List.getElem?_cons_zero]; rfl) (by first | rfl | (rw [hops.out]; rfl)) ?_ trivial
      refine k_st (v := (.int .i64 (nxOf i ys))) HS.out 3 (by rfl) (by rfl) (by rfl) (by kernel_rfl) (by rfl) (by rfl) (by exact Nat.zero_lt_one) ?_
      intro Wn hS
      have HS := Lib.hid hS; clear hS
      refine ⟨HS.out, ?_⟩
      try simp only [Act.put, List.setIfInBounds_toArray, List.set_cons_succ, List.set_cons_zero]
      exact ⟨rfl, rfl, HS.out⟩
    case hK =>
      intro Wn hS
      clear HS; have HS := Lib.hid hS; clear hS
      go_wp2_with fail
      have hKn := HS.out.oth.same D _ HK.out rfl
      try rw [Exit.noGoto_ret]
      refine ⟨by simp, .inl ⟨_, _, rfl, run_takeDeferred hKn, ?_⟩⟩
      have hS2 := HS.out.st.book (W' := Wn.putObj D (.deferred none)) (grownBy_putObj' Wn D _) (fun r e => by cases e; exact ⟨HD.out, _, hKn, rfl⟩)
      exact ⟨_, ret_cc2 (p := 4) (q := 5) rfl _ b4 b5 (.slice A2 ys.length c2) (.int .i64 (nxOf i ys)) (by rfl) (by rfl) (by kernel_rfl) (by kernel_rfl) (hS2.cell (i := 4) rfl (by rfl)) (hS2.cell (i := 3) rfl (by rfl)), ys, _, HE.out, rfl, hS2.below, hS2.own_row (i := 0) rfl, hS2.fact (i := 0) rfl⟩
  case stop =>
    rintro D c' ys W hD hpre ⟨rfl, hnx, hS⟩ hK
    have hE : ys.map RecI.strip = allF xs (xs.length + 1) (i : Int) := by
      rcases List.eq_nil_or_concat ys with rfl | ⟨l0, x, rfl⟩
      · have : (i : Int) = (xs.length : Int) := by simpa [nxOf] using hnx
        rw [allF_none (decR_far (by omega))]; rfl
      · rw [List.concat_eq_append, List.map_append] at hpre ⊢
        rw [List.concat_eq_append, nxOf_snoc] at hnx
        exact allF_end hpre hnx
    obtain ⟨j, u, hs⟩ := hS
    obtain ⟨A2, c2, rfl⟩ := Row.sl (hs.res (i := 0) rfl)
    clear HS
    have HS := Lib.hid hs.sk
    have HK := Lib.hid hK
    have HD := Lib.hid (Nat.le_trans hbz hD)
    have HE := Lib.hid hE
    clear hs hK hD hE hpre hnx
    gi_wp2_with fail
    try simp only [Exit.inBlock]
    go_wp2_with fail
    apply region_join0 (S := fun V => Sk W w V [Row (.slice A2 ys.length c2) 25 2 ys.length (rcells ys), Blk b3 [.int .i64 j] 3, Blk b2 [.slice A xs.length c] 22, Blk b5 [.int .i64 (nxOf i ys)] 3, Blk b4 [.slice A2 ys.length c2] 31, Blk b1 [.slice A xs.length c] 22] [Pays w.heap.size ys, fun W => HB W (.slice A xs.length c) xs])
    case hreg =>
      refine wp_region_tr (.yield 0 (.yield 1 (.act 2 (.act 3 .done .none) .none))) (by kernel_rfl) (by kernel_rfl) (by kernel_rfl) (fun _ _ _ _ _ h => absurd h.1 (by simp)) (fun w' => Sk W w w' [Row (.slice A2 ys.length c2) 25 2 ys.length (rcells ys), Blk b3 [.int .i64 j] 3, Blk b2 [.slice A xs.length c] 22, Blk b5 [.int .i64 (nxOf i ys)] 3, Blk b4 [.slice A2 ys.length c2] 31, Blk b1 [.slice A xs.length c] 22] [Pays w.heap.size ys, fun W => HB W (.slice A xs.length c) xs]) HS.out.drew ?_
      intro OPS hops
      have hS := HS.out.drew
      have HS := Lib.hid hS; clear hS
      refine wpT_yield _ (by rw [hops.out]; simp only [List.getElem?_toArray, List.getElem?_cons_succ, List.getElem?_cons_zero]; rfl) (by first | rfl | (rw [hops.out]; rfl)) (fun w' hS => by first | exact run_ld (by kernel_rfl) (by rfl) (by rfl) (hS.st.cell (i := 4) rfl (by rfl)) | exact run_ld (by kernel_rfl) (by rfl) (by rfl) (hS.st.cell (i := 3) rfl (by rfl)) | (go_simp; rfl)) ?_
      simp only [Act.put, List.setIfInBounds_toArray, List.set_cons_succ, List.set_cons_zero]
      refine wpT_yield _ (by rw [hops.out]; simp only [List.getElem?_toArray, List.getElem?_cons_succ, List.getElem?_cons_zero]; rfl) (by first | rfl | (rw [hops.out]; rfl)) (fun w' hS => by first | exact run_ld (by kernel_rfl) (by rfl) (by rfl) (hS.st.cell (i := 4) rfl (by rfl)) | exact run_ld (by kernel_rfl) (by rfl) (by rfl) (hS.st.cell (i := 3) rfl (by rfl)) | (go_simp; rfl)) ?_
      simp only [Act.put, List.setIfInBounds_toArray, List.set_cons_succ, List.set_cons_zero]
      refine wpT_act (by rw [hops.out]; simp only [List.getElem?_toArray, List.getElem?_cons_succ, List.getElem?_cons_zero]; rfl) (by first | rfl | (rw [hops.out]; rfl)) ?_ trivial
      refine k_st (v := (.slice A2 ys.length c2)) HS.out 4 (by rfl) (by rfl) (by rfl) (by kernel_rfl) (by rfl) (by rfl) (by exact Nat.zero_lt_one) ?_
      intro Wn hS
      have HS := Lib.hid hS; clear hS
      refine ⟨HS.out, ?_⟩
      try simp only [Act.put, List.setIfInBounds_toArray, List.set_cons_succ, List.set_cons_zero]
      refine wpT_act (by rw [hops.out]; simp only [List.getElem?_toArray, List.getElem?_cons_succ, List.getElem?_cons_zero]; rfl) (by first | rfl | (rw [hops.out]; rfl)) ?_ trivial
      refine k_st (v := (.int .i64 (nxOf i ys))) HS.out 3 (by rfl) (by rfl) (by rfl) (by kernel_rfl) (by rfl) (by rfl) (by exact Nat.zero_lt_one) ?_
      intro Wn hS
      have HS := Lib.hid hS; clear hS
      refine ⟨HS.out, ?_⟩
      try simp only [Act.put, List.setIfInBounds_toArray, List.set_cons_succ, List.set_cons_zero]
      exact ⟨rfl, rfl, HS.out⟩
    case hK =>
      intro Wn hS
      clear HS; have HS := Lib.hid hS; clear hS
      go_wp2_with fail
      have hKn := HS.out.oth.same D _ HK.out rfl
      try rw [Exit.noGoto_ret]
      refine ⟨by simp, .inl ⟨_, _, rfl, run_takeDeferred hKn, ?_⟩⟩
      have hS2 := HS.out.st.book (W' := Wn.putObj D (.deferred none)) (grownBy_putObj' Wn D _) (fun r e => by cases e; exact ⟨HD.out, _, hKn, rfl⟩)
      exact ⟨_, ret_cc2 (p := 4) (q := 5) rfl _ b4 b5 (.slice A2 ys.length c2) (.int .i64 (nxOf i ys)) (by rfl) (by rfl) (by kernel_rfl) (by kernel_rfl) (hS2.cell (i := 4) rfl (by rfl)) (hS2.cell (i := 3) rfl (by rfl)), ys, _, HE.out, rfl, hS2.below, hS2.own_row (i := 0) rfl, hS2.fact (i := 0) rfl⟩
end
end Go.Proofs.Ytlpklbpaknemaaa
