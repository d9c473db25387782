/- Contracts and words that the laws stand on (PenA). -/
import Derived.Test.YteljmpoaggfliaaRecI0
import Derived.Test.YteljmpoaggfliaaRecA
import Derived.Test.YteljmpoaggfliaaOpen
set_option linter.unusedVariables false
set_option linter.unusedSimpArgs false
namespace Go.Proofs.Yteljmpoaggfliaa
section
open Go Go.RowKit Go.Proofs
theorem run_str {W : World} {ev : Operand → Value} {o : Oper} {x : Operand} {v : Value} {xs : List UInt8} (ho : o.op = .convert 28 9 x) (hx : ev x = v) (h : HB W v xs) : (execOp ev o).run Try.prog W = .ok (.value (.string ⟨xs.toArray⟩)) W := by
  unfold execOp
  simp only [ho, hx, Sem.run_bind, Sem.run_pure, Result.andThen_ok, h.string (P := Try.prog) 28 9 5 Try.underlying28 Try.underlying5 Try.underlying9]
theorem ba_eq (a b : List UInt8) : ((⟨a.toArray⟩ : ByteArray) = ⟨b.toArray⟩) ↔ a = b := by
  constructor
  · intro h
    have := congrArg ByteArray.data h
    exact Array.toList_inj.2 this |> fun h => by simpa using h
  · rintro rfl; rfl
attribute [local irreducible] Calls
set_option maxHeartbeats 1000000 in
set_option maxRecDepth 100000 in
theorem equal47 (u v : Value) (xs ys : List UInt8) (w : World) (hu : HB w u xs) (hv : HB w v ys) :
    Calls Try.prog 70 #[u, v] w fun e w' => e = .returned (.bool (decide (xs = ys))) ∧ w = w' := by
  have HU := Lib.hid hu; have HV := Lib.hid hv
  obtain ⟨A, c, rfl, hlc⟩ := hu.shape
  obtain ⟨B, d, rfl, hmc⟩ := hv.shape
  clear hu hv
  go_enter Try.func70, Try.ntmps70
  go_wp2_with (first
    | (refine wl (by rfl) (wp_of_run (run_str (by rfl) (by rfl) HU.out) ?_))
    | (refine wl (by rfl) (wp_of_run (run_str (by rfl) (by rfl) HV.out) ?_)))
  go_ret
  have hbd : (xs == ys) = decide (xs = ys) := by by_cases h : xs = ys <;> simp [h]
  exact ⟨by rw [← hbd]; rfl, rfl⟩
end
section
open Go Go.RowKit Go.Proofs
theorem fixed4 (n : Nat) (h : n < 4294967296) : fixedB 4 n = le 4 n := by
  have h1 : fixedE 4 n = 0 := by
    unfold fixedE
    rw [if_neg (by decide), if_neg]
    simp [goesB]; omega
  rw [fixedB, if_pos h1]; rfl
theorem fixedE4 (n : Nat) (h : n < 4294967296) : fixedE 4 n = 0 := by
  unfold fixedE
  rw [if_neg (by decide), if_neg]
  simp [goesB]; omega
attribute [local irreducible] Calls
theorem twinN (v : Value) (xs : List UInt8) (w : World) (h : HB w v xs) (hl : xs.length ≤ 70368744177664) :
    Calls Try.prog 75 #[v] w fun e w' => ∃ v', e = .returned v' ∧ New w w' (Row v' 5 1 (xs).length (bs (xs))) := by
  refine (twin_any v xs w h hl).mono ?_
  rintro e w' ⟨v', rfl, ho, hb⟩
  exact ⟨v', rfl, New.row ho hb⟩
theorem rfix4N (n : Nat) (w : World) (hn : n < 4294967296) :
    Calls Try.prog 121 #[.int .i64 4, .int .u64 (n : Int)] w fun e w' => ∃ v', e = .returned (.tuple #[v', .int .i64 0]) ∧ New w w' (Row v' 5 1 (le 4 n).length (bs (le 4 n))) := by
  refine (rfixed_any 4 n w (by omega)).mono ?_
  rintro e w' ⟨v', rfl, ho, hb⟩
  rw [fixedE4 n hn]
  rw [fixed4 n hn] at ho
  exact ⟨v', rfl, New.row ho hb⟩
end
section
open Go Go.RowKit Go.Proofs
/-! What requests need of records' texts. -/
theorem take_snoc {α : Type} (l : List α) (i : Nat) (x : α) (h : l[i]? = some x) : l.take (i + 1) = l.take i ++ [x] := by
  rw [List.take_add_one, h]; rfl
theorem fixed1 (b : UInt8) : fixedB 1 b.toNat = [b] ∧ fixedE 1 b.toNat = 0 := by
  have hb := b.toNat_lt
  have h1 : fixedE 1 b.toNat = 0 := by
    unfold fixedE
    rw [if_neg (by decide), if_neg]
    simp [goesB]; omega
  refine ⟨?_, h1⟩
  unfold fixedB
  rw [if_pos h1]
  simp [le]
theorem penOne (p : Nat) (b : UInt8) (v : Value) (xs : List UInt8) (w : World) (hp : IsPen w p v xs) (hb : xs.length + 8 ≤ 70368744177664) :
    Calls Try.prog 60 #[.pointer (some ⟨p, 0, none⟩), .int .i64 1, .int .u64 (b.toNat : Int)] w fun e w' => ∃ v', e = .returned (.int .i64 0) ∧ PenGo w w' p v v' (xs ++ [b]) := by
  refine (fixed_any p 1 b.toNat v xs w hp (by have := b.toNat_lt; omega) hb).mono ?_
  rintro e w' ⟨rfl, v', hg⟩
  rw [(fixed1 b).1] at hg
  exact ⟨v', by rw [(fixed1 b).2], hg⟩
theorem penFour (p : Nat) (n : Nat) (v : Value) (xs : List UInt8) (w : World) (hp : IsPen w p v xs) (hn : n < 4294967296) (hb : xs.length + 8 ≤ 70368744177664) :
    Calls Try.prog 60 #[.pointer (some ⟨p, 0, none⟩), .int .i64 4, .int .u64 (n : Int)] w fun e w' => ∃ v', e = .returned (.int .i64 0) ∧ PenGo w w' p v v' (xs ++ le 4 n) := by
  refine (fixed_any p 4 n v xs w hp (by omega) hb).mono ?_
  rintro e w' ⟨rfl, v', hg⟩
  rw [fixed4 n hn] at hg
  exact ⟨v', by rw [fixedE4 n hn], hg⟩
theorem penAll (p : Nat) (v : Value) (xs : List UInt8) (w : World) (hp : IsPen w p v xs) (hb : xs.length ≤ 70368744177664) :
    Calls Try.prog 61 #[.pointer (some ⟨p, 0, none⟩)] w fun e w' => ∃ v', e = .returned v' ∧ New w w' (Row v' 5 1 xs.length (bs xs)) := by
  refine (pall_any p v xs w hp hb).mono ?_
  rintro e w' ⟨v', rfl, ho, hb⟩
  exact ⟨v', rfl, New.row ho hb⟩
theorem St.old {w W : World} {L : List Res} {Fs : List (World → Prop)} (h : St w W L Fs) {F : World → Prop} (hF : Away (Keys []) F w) : St w W L (F :: Fs) :=
  h.addF fun W' hs => hF W' ⟨Nat.le_trans h.below.size hs.size, fun k o _ ho hc => by
    have hk := (Array.getElem?_eq_some_iff.1 ho).1
    exact hs.blk k o (fun hm => by have := (h.key_lt hm).1; omega) ((h.below.block k hk).trans ho) hc⟩
theorem z80 : zeroIs Try.prog 96 (.agg #[.slice none 0 0]) := by unfold zeroIs; kernel_rfl
section
variable {P : Program} {w W : World} {L : List Res} {Fs : List (World → Prop)} {o : Oper} {a : Act} {K : Act → World → Prop} {Q : Exit → Act → World → Prop}
theorem s_bs0 (hS : St w W L Fs) {t E : TypeId} (s : Nat) {parts : Array (Nat × Operand)} (ho : o.op = .buildSlice t 0 parts) (ht : P.underlying t = some (.slice E)) (hi : (P.info? E).map (·.size) = some s) (hp : parts = #[])
    (h : ∀ b W', St w W' (Row (.slice (some ⟨b, 0, none⟩) 0 0) E s 0 [] :: L) Fs → K (a.put o.dst (.slice (some ⟨b, 0, none⟩) 0 0)) W') : o.wp P a W K Q := by
  subst hp
  refine wp_of_run (W' := W.alloc (.cells #[] E)) (v := .slice (some ⟨W.heap.size, 0, none⟩) 0 0) ?_ (h _ _ ?_)
  · obtain ⟨i, hi', rfl⟩ := Option.map_eq_some_iff.1 hi
    have e2 : (Go.sizeOf E).run P W = .ok i.size W := by simp [sizeOf, typeInfo, hi', go_sem]
    unfold execOp
    simp only [ho, Instr.buildSlice, Sem.run_bind, Sem.run_pure, Result.andThen_ok, run_underlying ht, e2, Nat.zero_mul]
    have e3 : (Array.range 0).map (fun _ => (default : Value)) = #[] := by apply Array.ext <;> simp
    simp [Instr.fill, newRow, e3]
  · refine hS.new ((Below.refl _ _).alloc (Nat.le_refl _) _) (r := Row (.slice (some ⟨W.heap.size, 0, none⟩) 0 0) E s 0 []) ?_ (fun k hk => by simp [Row, Value.ownBlock] at hk; subst hk; simp)
    have := World.ownsRow_lit (base := 0) (e := E) (size := s) W #[] 0 (Nat.zero_le _) (by simp only [maxLen]; omega) (by simp)
    have this' : (W.alloc (.cells #[] E)).ownsRow 0 E s (.slice (some ⟨W.heap.size, 0, none⟩) 0 0) 0 [] := by simpa using this
    exact this'
end
section
open Go.ChangeShapes
theorem addr0 (x : Addr) : Addr.add x 0 = x := by unfold Addr.add; simp
theorem list_of {α : Type} {n : Nat} {p : Nat → α → Prop} (h : ∀ i, i < n → ∃ d, p i d) : ∃ ds : List α, ds.length = n ∧ ∀ i d, ds[i]? = some d → p i d := by
  induction n with
  | zero => exact ⟨[], rfl, fun i d h => by simp at h⟩
  | succ n ih =>
    obtain ⟨ds, hl, hp⟩ := ih (fun i hi => h i (by omega))
    obtain ⟨d, hd⟩ := h n (by omega)
    refine ⟨ds ++ [d], by simp [hl], fun i e he => ?_⟩
    by_cases hi : i < n
    · rw [List.getElem?_append_left (by omega)] at he; exact hp i e he
    · rw [List.getElem?_append_right (by omega)] at he
      have : i - ds.length = 0 := by
        have := (List.getElem?_eq_some_iff.1 he).1
        simp at this; omega
      rw [this] at he
      simp at he
      subst he
      have : i = n := by omega
      subst this; exact hd
theorem cells5 : Try.prog.cellsOf 5 = 1 := by kernel_rfl
theorem cells3 : Try.prog.cellsOf 3 = 1 := by kernel_rfl
theorem cells22 : Try.prog.cellsOf 28 = 1 := by kernel_rfl
theorem hbd_of {w : World} {cs : List Value} (g : Rd Try.prog w 28 cs) : ∃ u xs, cs = [u] ∧ HB w u xs := by
  obtain ⟨a, len, cap, rfl, h⟩ := g.slice Try.underlying28
  rcases h with ⟨rfl, rfl, rfl⟩ | ⟨x, rfl, hl, _, hc⟩
  · exact ⟨_, [], rfl, HB.nil _ _ _⟩
  · obtain ⟨xs, hxl, hx⟩ := list_of (n := len) (p := fun i (b : UInt8) => w.cell? (x.add i) = some (.int .u8 (b.toNat : Int))) (fun i hi => by
      obtain ⟨ds, hds, hr⟩ := hc i (by omega)
      obtain ⟨n, rfl, hw⟩ := hr.int Try.underlying5
      rw [cells5] at hds
      obtain ⟨_, hcell⟩ := cells_spec hds
      have h0 := hcell 0 (by omega)
      have hb : 0 ≤ n ∧ n < 256 := by simp [Lit.wf, IntKind.min, IntKind.max, IntKind.signed, IntKind.bits] at hw; omega
      refine ⟨UInt8.ofNat n.toNat, ?_⟩
      rw [Nat.mul_one, addr0] at h0
      rw [h0]
      simp
      omega)
    exact ⟨_, xs, rfl, ⟨some x, cap, by rw [hxl], by omega, (fun e => by cases e), fun a ha i b hb => by injection ha with ha; subst ha; exact hx i b hb⟩⟩
end
end
end Go.Proofs.Yteljmpoaggfliaa
