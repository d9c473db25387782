/- Contracts and words that the laws stand on (RecI0). -/
import Derived.Test.YteljmpoaggfliaaRecA
import Derived.Test.YteljmpoaggfliaaEyeA
set_option linter.unusedVariables false
set_option linter.unusedSimpArgs false
namespace Go.Proofs.Yteljmpoaggfliaa
section
open Go Go.RowKit Go.Proofs
/-- A literal's row (marked behind its last cell). -/
def LitR (b : Nat) (xs : List UInt8) : Res := ⟨[b], fun W => ∃ fr, W.heap[b]? = some (.cells (bs xs).toArray 5 fr), fun _ _ h ho => by obtain ⟨fr, ho⟩ := ho; exact ⟨fr, (h b (by simp)).trans ho⟩, fun W h k hk => by simp at hk; subst hk; obtain ⟨fr, ho⟩ := h; exact ⟨_, ho, rfl⟩⟩
theorem LitR.hb {b : Nat} {xs : List UInt8} {W : World} (h : (LitR b xs).ok W) : HB W (.slice (some ⟨b, 0, none⟩) xs.length xs.length) xs := by
  obtain ⟨fr, h⟩ := h
  refine ⟨_, _, rfl, Nat.le_refl _, (fun e => by cases e), fun a ha i x hx => ?_⟩
  injection ha with ha
  subst ha
  rw [show (⟨b, 0, none⟩ : Addr).add i = ⟨b, i, none⟩ by simp [Addr.add]; intro h; exact h.symm, blk_cell h]
  simp [bs, hx]
section
variable {w W : World} {L : List Res} {Fs : List (World → Prop)} {o : Oper} {a : Act} {K : Act → World → Prop} {Q : Exit → Act → World → Prop}
theorem run_cv {b n c : Nat} {cs : Array Value} (hb : W.heap[b]? = some (.cells cs 5 (0, 0))) : ∃ W', (convert 28 28 (.slice (some ⟨b, 0, none⟩) n c)).run Try.prog W = .ok (.slice (some ⟨b, 0, none⟩) n c) W' ∧ (∃ fr, W'.heap[b]? = some (.cells cs 5 fr)) ∧ Chg [b] W W' := by
  refine ⟨W.freeze ⟨b, cs.size, none⟩ 1, ?_, ?_, ?_⟩
  · have hsh : W.shape? b = some (5, cs.size) := by unfold World.shape?; rw [hb]
    simp [convert, run_underlying Try.underlying28, run_underlying Try.underlying5, markStringish, hsh]
  · refine ⟨(cs.size, cs.size + 1), ?_⟩
    simp [World.freeze, Array.getElem?_modify, hb]
  · refine ⟨by simp [World.freeze], by simp [World.freeze], by simp [World.freeze], by simp [World.freeze], fun k _ hn => ?_⟩
    have : b ≠ k := fun e => hn (by simp [e])
    simp [World.freeze, Array.getElem?_modify, this]
theorem s_cv (hS : St w W L Fs) (i : Nat) {b : Nat} {xs : List UInt8} {x : Operand} (ho : o.op = .convert 28 28 x) (hx : a.eval x = .slice (some ⟨b, 0, none⟩) xs.length xs.length) (hi : L[i]? = some (Row (.slice (some ⟨b, 0, none⟩) xs.length xs.length) 5 1 xs.length (bs xs)))
    (h : ∀ W', St w W' (L.set i (LitR b xs)) Fs → K (a.put o.dst (.slice (some ⟨b, 0, none⟩) xs.length xs.length)) W') : o.wp Try.prog a W K Q := by
  have hr := hS.res hi
  rcases hr.2 with ⟨e, _⟩ | ⟨g, cap, cur, e, h1, h2, h3, h4, h5, h6⟩
  · cases e
  injection e with e1 e2 e3
  injection e1 with e1
  injection e1 with e1
  subst e1
  have hc : cur = (bs xs).toArray := by
    apply Array.ext'
    rw [← h6, List.take_of_length_le]
    rw [Array.length_toList, h5, ← e3]
    exact Nat.le_refl _
  subst hc
  obtain ⟨W', g1, ⟨fr, g2⟩, g3⟩ := run_cv (n := xs.length) (c := xs.length) h2
  refine wp_of_run (W' := W') ?_ (h W' ?_)
  · unfold execOp
    simp only [ho, hx, Sem.run_bind, Sem.run_pure, Result.andThen_ok, g1]
  · refine hS.upd hi (by simpa [Row, Value.ownBlock] using g3) ⟨fr, g2⟩ (fun k hk => ?_)
    simp [LitR] at hk
    subst hk
    exact ⟨.inl (by simp [Row, Value.ownBlock]), blk_lt g2⟩
theorem run_slh {ev : Operand → Value} {x y : Operand} {A : Option Addr} {n c : Nat} (k : Nat) (ho : o.op = .slice 28 x none (some y) none) (hx : ev x = .slice A n c) (hy : ev y = .int .i64 (k : Int)) (hk : k ≤ n) (hn : n ≤ c) : (execOp ev o).run Try.prog W = .ok (.value (.slice A k c)) W := by
  have h := run_cut_h 28 5 Try.underlying28 size5 A n c k hk hn W
  unfold execOp
  simp only [ho, hx, hy, Instr.sliceAt, run_underlying Try.underlying28, Option.map_some, Option.map_none, Sem.run_bind, Sem.run_pure, Result.andThen_ok, h]
theorem run_sll {ev : Operand → Value} {x y : Operand} {A : Option Addr} {n c : Nat} (k : Nat) (ho : o.op = .slice 28 x (some y) none none) (hx : ev x = .slice A n c) (hy : ev y = .int .i64 (k : Int)) (hk : k ≤ n) : (execOp ev o).run Try.prog W = .ok (.value (.slice (cutA A c k) (n - k) (c - k))) W := by
  have h := run_cut_l 28 5 Try.underlying28 size5 A n c k hk W
  unfold execOp
  simp only [ho, hx, hy, Instr.sliceAt, run_underlying Try.underlying28, Option.map_some, Option.map_none, Sem.run_bind, Sem.run_pure, Result.andThen_ok, h]
theorem run_sllh {ev : Operand → Value} {x y z : Operand} {A : Option Addr} {n c : Nat} (k m : Nat) (ho : o.op = .slice 28 x (some y) (some z) none) (hx : ev x = .slice A n c) (hy : ev y = .int .i64 (k : Int)) (hz : ev z = .int .i64 (m : Int)) (hkm : k ≤ m) (hm : m ≤ n) (hn : n ≤ c) : (execOp ev o).run Try.prog W = .ok (.value (.slice (cutA A c k) (m - k) (c - k))) W := by
  have h := run_cut_lh 28 5 Try.underlying28 size5 A n c k m hkm hm hn W
  unfold execOp
  simp only [ho, hx, hy, hz, Instr.sliceAt, run_underlying Try.underlying28, Option.map_some, Option.map_none, Sem.run_bind, Sem.run_pure, Result.andThen_ok, h]
end
end
end Go.Proofs.Yteljmpoaggfliaa
