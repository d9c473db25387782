/- Contracts and words that the laws stand on (RecE). -/
import Derived.Test.YtakeggdpnfibpaaRecD
set_option linter.unusedVariables false
set_option linter.unusedSimpArgs false
namespace Go.Proofs.Ytakeggdpnfibpaa
section
open Go Go.RowKit Go.Proofs
attribute [local go_sem] Oper.semAt_some
attribute [local irreducible] Calls

theorem z31 : zeroIs Try.prog 37 (.slice none 0 0) := by unfold zeroIs; kernel_rfl
theorem z3c : zeroIs Try.prog 3 (.int .i64 0) := by unfold zeroIs; kernel_rfl
def rcells (l : List RecI) : List Value := l.flatMap fun x => [.int .i64 (x.k.toNat : Int), x.v]
def nxOf (i : Int) (l : List RecI) : Int := (l.getLast?.map (·.nx)).getD i
def Pays (B : Nat) (l : List RecI) (W : World) : Prop := ∀ x ∈ l, W.ownsRow B 5 1 x.v x.p.length (bs x.p)
def AllSt (w : World) (A : Option Addr) (c b1 b2 b3 b4 b5 : Nat) (xs : List UInt8) (i : Int) (pre : List RecI) (W : World) : Prop :=
  ∃ (j : Int) (u : Value), St w W [Row u 48 2 pre.length (rcells pre), Blk b3 [.int .i64 j] 3, Blk b2 [.slice A xs.length c] 28, Blk b5 [.int .i64 (nxOf i pre)] 3, Blk b4 [u] 37, Blk b1 [.slice A xs.length c] 28] [Pays w.heap.size pre, fun W => HB W (.slice A xs.length c) xs]
def AllIn (w : World) (A : Option Addr) (c b1 b2 b3 b4 b5 : Nat) (xs : List UInt8) (i : Int) (pre : List RecI) (x : RecI) (b7 : Nat) (W : World) : Prop :=
  ∃ (j : Int) (u : Value), St w W [Blk b7 [.int .i64 (x.k.toNat : Int), x.v] 48, Row u 48 2 pre.length (rcells pre), Blk b3 [.int .i64 j] 3, Blk b2 [.slice A xs.length c] 28, Blk b5 [.int .i64 (nxOf i pre)] 3, Blk b4 [u] 37, Blk b1 [.slice A xs.length c] 28] [Pays w.heap.size (pre ++ [x]), fun W => HB W (.slice A xs.length c) xs]
section
variable {w : World} {A : Option Addr} {c b1 b2 b3 b4 b5 : Nat} {xs : List UInt8} {i : Int}
theorem AllSt.own {B : Nat} (hB : w.heap.size ≤ B) : OwnFrom B (AllSt w A c b1 b2 b3 b4 b5 xs i) := by
  rintro pre X Y row ⟨j, u, hs⟩ hg hr
  exact ⟨j, u, hs.book hg (fun r e => ⟨Nat.le_trans hB (hr r e).1, (hr r e).2⟩)⟩
theorem AllSt.bears : Bears b3 (AllSt w A c b1 b2 b3 b4 b5 xs i) := by
  rintro pre X Y ⟨j, u, hs⟩ ⟨hc, k, hk⟩
  exact ⟨k, u, hs.upd (i := 1) (r' := Blk b3 [.int .i64 k] 3) rfl hc hk (fun q hq => ⟨.inl hq, by simp [Blk] at hq; subst hq; exact blk_lt hk⟩)⟩
theorem Away.row {K : Nat → Prop} {W : World} {B : Nat} {E : TypeId} {s n : Nat} {v : Value} {l : List Value} (ho : W.ownsRow B E s v n l) (hk : ∀ k, v.ownBlock = some k → ¬ K k) : Away K (fun W => W.ownsRow B E s v n l) W := fun W' hs =>
  own_block ho (fun k hkv => by
    obtain ⟨o, h1, h2⟩ := (Row v E s n l).cel W (own_base ho (fun _ _ => Nat.zero_le _)) k (by simp [Row, hkv])
    rw [h1]; exact hs.blk k o (hk k hkv) h1 h2)
theorem run_loadVar1 {P : Program} {w : World} {t : TypeId} (h : scal P t = true) {p : Addr} {v : Value} (hc : w.cell? p = some v) : (loadVar t p).run P w = .ok v w := by
  simp only [loadVar, Sem.run_bind, scal_agg h, Result.andThen_ok]
  simp [go_sem, hc]
theorem ret_cc2 {P : Program} {w : World} {fn : Func} {p q : Tmp} {tp tq : TypeId} (h : fn.results = #[.cell p tp, .cell q tq]) (tmps : Array Value) (g k : Nat) (u x : Value) (hp : tmps.getD p undef = .pointer (some ⟨g, 0, none⟩)) (hq : tmps.getD q undef = .pointer (some ⟨k, 0, none⟩)) (hsp : scal P tp = true) (hsq : scal P tq = true) (hg : w.cell? ⟨g, 0, none⟩ = some u) (hk : w.cell? ⟨k, 0, none⟩ = some x) :
    (results fn tmps).run P w = .ok (.tuple #[u, x]) w := by
  have hp' : tmps[p]?.getD undef = .pointer (some ⟨g, 0, none⟩) := by simpa using hp
  have hq' : tmps[q]?.getD undef = .pointer (some ⟨k, 0, none⟩) := by simpa using hq
  simp [results, h, hp', hq', asAddr, run_loadVar1 hsp hg, run_loadVar1 hsq hk]
theorem allF_end {xs : List UInt8} {f : Nat} : ∀ {i : Int} {l : List (UInt8 × List UInt8 × Int)} {x : UInt8 × List UInt8 × Int}, (l ++ [x]) <+: allF xs f i → x.2.2 = (xs.length : Int) → l ++ [x] = allF xs f i := by
  induction f with
  | zero => intro i l x h _; simp [allF] at h
  | succ f ih =>
    intro i l x h hx
    cases hd : decR xs i with
    | none => rw [allF_none hd] at h; simp at h
    | some kp =>
      obtain ⟨k, p⟩ := kp
      rw [allF_some hd] at h ⊢
      cases l with
      | nil =>
        simp only [List.nil_append, List.cons_prefix_cons, List.nil_prefix, and_true] at h
        subst h
        simp only at hx
        rw [hx, allF_none (decR_far (by omega))]
        rfl
      | cons y l =>
        simp only [List.cons_append, List.cons_prefix_cons] at h ⊢
        rw [h.1, ih h.2 hx]
theorem region_join0 {P : Program} {c : Code} {Q : Exit → Act → World → Prop} {a : Act} {w : World} {S : World → Prop} {a1 : Act} (hreg : c.wp P (fun e a' w' => e = .normal ∧ a' = a1 ∧ S w') a w) (hK : ∀ V, S V → Q .normal a1 V) : c.wp P Q a w :=
  Code.wp_mono (fun e a' w' h => by obtain ⟨rfl, rfl, hS⟩ := h; exact hK _ hS) hreg
theorem k_st {P : Program} {k0 w W : World} {L : List Res} {Fs : List (World → Prop)} {o : Oper} {a : Act} {K : Act → World → Prop} {Q : Exit → Act → World → Prop} {t T : TypeId} {b k : Nat} {l : List Value} {v : Value} {x y : Operand} (hS : Sk k0 w W L Fs) (i : Nat) (ho : o.op = .store t x y) (hx : a.eval x = .pointer (some ⟨b, k, none⟩)) (hi : L[i]? = some (Blk b l T)) (hs : scal P t = true) (hy : a.eval y = v) (h1 : v.oneCell' = true) (hk : k < l.length) (h : ∀ W', Sk k0 w W' (L.set i (Blk b (l.set k v) T)) Fs → K (a.put o.dst undef) W') : o.wp P a W K Q :=
  wp_of_skip (run_stc hs ho hx hy h1 (hS.st.cell hi (List.getElem?_eq_getElem hk)) (hS.st.free hi)) (h _ ⟨hS.st.setCell hi v, hS.oth.trans (KeepsOthers.setCell W _ v)⟩)
theorem rcells_snoc (l : List RecI) (x : RecI) : rcells (l ++ [x]) = rcells l ++ [.int .i64 (x.k.toNat : Int), x.v] := by simp [rcells]
theorem nxOf_snoc (i : Int) (l : List RecI) (x : RecI) : nxOf i (l ++ [x]) = x.nx := by simp [nxOf]
theorem kept_of {w W W' : World} {L L' : List Res} {Fs Gs : List (World → Prop)} {b2 b3 : Nat} {l2 l3 : List Value} {T2 T3 : TypeId} (h : St w W L Fs) (h' : St w W' L' Gs) (i j i' j' : Nat) (hi : L[i]? = some (Blk b2 l2 T2)) (hi' : L'[i']? = some (Blk b2 l2 T2)) (hj : L[j]? = some (Blk b3 l3 T3)) (hj' : L'[j']? = some (Blk b3 l3 T3)) : Kept w.heap.size b2 b3 W W' := by
  rintro k (rfl | rfl | hk)
  · rw [h.blk hi, h'.blk hi']
  · rw [h.blk hj, h'.blk hj']
  · rw [h.below.block k hk, h'.below.block k hk]
end
end
end Go.Proofs.Ytakeggdpnfibpaa
