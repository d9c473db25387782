/- Contracts and words that the laws stand on (RecJ). -/
import Derived.Test.YtakeggdpnfibpaaOpen
import Derived.Test.YtakeggdpnfibpaaRecF
import Derived.Test.YtakeggdpnfibpaaRecI
set_option linter.unusedVariables false
set_option linter.unusedSimpArgs false
namespace Go.Proofs.Ytakeggdpnfibpaa
section
open Go Go.RowKit Go.Proofs Go.ChangeShapes
/-! Records, and bytes, that came in. -/
theorem addr0 (x : Addr) : Addr.add x 0 = x := by unfold Addr.add; simp
theorem list_of {α : Type} {n : Nat} {p : Nat → α → Prop} (h : ∀ i, i < n → ∃ d, p i d) : ∃ ds : List α, ds.length = n ∧ ∀ i d, ds[i]? = some d → p i d := by
  induction n with
  | zero => exact ⟨[], rfl, fun i d h => by simp at h⟩
  | succ n ih =>
    obtain ⟨ds, hl, hp⟩ := ih (fun i hi => h i (by omega))
    obtain ⟨d, hd⟩ := h n (by omega)
    refine ⟨ds ++ [d], by simp [hl], fun i e he => ?_⟩
    by_cases hi : i < n
    · rw [List.getElem?_append_left (by omega)] at he; exact hp i e he
    · rw [List.getElem?_append_right (by omega)] at he
      have : i - ds.length = 0 := by
        have := (List.getElem?_eq_some_iff.1 he).1
        simp at this; omega
      rw [this] at he
      simp at he
      subst he
      have : i = n := by omega
      subst this; exact hd
theorem cells5 : Try.prog.cellsOf 5 = 1 := by kernel_rfl
theorem cells3 : Try.prog.cellsOf 3 = 1 := by kernel_rfl
theorem cells22 : Try.prog.cellsOf 28 = 1 := by kernel_rfl
theorem cells25 : Try.prog.cellsOf 48 = 2 := by kernel_rfl
/-- Bytes that are read. -/
theorem hbd_of {w : World} {cs : List Value} (g : Rd Try.prog w 28 cs) : ∃ u xs, cs = [u] ∧ HB w u xs := by
  obtain ⟨a, len, cap, rfl, h⟩ := g.slice Try.underlying28
  rcases h with ⟨rfl, rfl, rfl⟩ | ⟨x, rfl, hl, _, hc⟩
  · exact ⟨_, [], rfl, HB.nil _ _ _⟩
  · obtain ⟨xs, hxl, hx⟩ := list_of (n := len) (p := fun i (b : UInt8) => w.cell? (x.add i) = some (.int .u8 (b.toNat : Int))) (fun i hi => by
      obtain ⟨ds, hds, hr⟩ := hc i (by omega)
      obtain ⟨n, rfl, hw⟩ := hr.int Try.underlying5
      rw [cells5] at hds
      obtain ⟨_, hcell⟩ := cells_spec hds
      have h0 := hcell 0 (by omega)
      have hb : 0 ≤ n ∧ n < 256 := by simp [Lit.wf, IntKind.min, IntKind.max, IntKind.signed, IntKind.bits] at hw; omega
      refine ⟨UInt8.ofNat n.toNat, ?_⟩
      rw [Nat.mul_one, addr0] at h0
      rw [h0]
      simp
      omega)
    exact ⟨_, xs, rfl, ⟨some x, cap, by rw [hxl], by omega, (fun e => by cases e), fun a ha i b hb => by injection ha with ha; subst ha; exact hx i b hb⟩⟩
theorem spot_of {w : World} {x : Addr} {v : Value} (h : w.cell? x = some v) : x = ⟨x.block, x.off, none⟩ := by
  obtain ⟨b, o, s⟩ := x
  unfold World.cell? at h
  split at h
  · cases s with
    | none => rfl
    | some s => simp at h
  · cases h
theorem rs_of {w : World} {a : Option Addr} {len cap : Nat} (g : Rd Try.prog w 37 [.slice a len cap]) : ∃ l, RS w (.slice a len cap) l := by
  obtain ⟨a', len', cap', e, h⟩ := g.slice Try.underlying37
  injection e with e _
  injection e with e1 e2 e3
  subst e1 e2 e3
  rcases h with ⟨rfl, rfl, rfl⟩ | ⟨x, rfl, hl, hml, hc⟩
  · exact ⟨[], none, 0, rfl, Nat.le_refl _, fun _ => rfl, fun a ha => by cases ha⟩
  · obtain ⟨ds, hdl, hd⟩ := list_of (n := len) (p := fun i (d : Int × List UInt8) => ∃ pv, w.cell? (x.add (2 * i)) = some (.int .i64 d.1) ∧ w.cell? (x.add (2 * i + 1)) = some pv ∧ HB w pv d.2) (fun i hi => by
      obtain ⟨cs, hcs, hr⟩ := hc i (by omega)
      rw [cells25] at hcs
      obtain ⟨hlen, hcell⟩ := cells_spec hcs
      obtain ⟨_, hf⟩ := hr.struct Try.underlying48
      have f0 := hf _ (List.mem_cons_self ..)
      have f1 := hf _ (List.mem_cons_of_mem _ (List.mem_cons_self ..))
      clear hf
      simp only [cells3, cells22, List.drop_zero] at f0 f1
      match cs, hlen with
      | [v0, v1], _ =>
        obtain ⟨k, hk, _⟩ := f0.int Try.underlying3
        obtain ⟨u, xs, hu, hb⟩ := hbd_of f1
        simp at hk hu
        subst hk hu
        have h0 := hcell 0 (by omega)
        have h1 := hcell 1 (by omega)
        rw [add_of_add, Nat.mul_comm i 2] at h0 h1
        exact ⟨(k, xs), v1, by simpa using h0, by simpa using h1, hb⟩)
    refine ⟨ds, some x, cap, by rw [hdl], by omega, (fun e => by cases e), fun a ha i d hi => ?_⟩
    injection ha with ha
    subst ha
    obtain ⟨pv, c1, c2, hb⟩ := hd i d hi
    have h0 : 0 < ds.length := by have := (List.getElem?_eq_some_iff.1 hi).1; omega
    obtain ⟨_, z1, _, _⟩ := hd 0 _ (List.getElem?_eq_getElem h0)
    rw [Nat.mul_zero, addr0] at z1
    exact ⟨pv, spot_of z1, c1, c2, hb⟩
end
section
open Go Go.RowKit Go.Proofs
attribute [local irreducible] Calls

def grt (l : List (Int × List UInt8)) : Bool := decide (l.length ≤ 60) && l.all fun x => decide (x.2.length ≤ 500)
def grtI (l : List (Int × List UInt8)) : Int := if grt l then 0 else 1
theorem grt_false {l : List (Int × List UInt8)} {i : Nat} {x : Int × List UInt8} (hx : l[i]? = some x) (h : 500 < x.2.length) : grt l = false := by
  unfold grt
  rw [Bool.and_eq_false_iff]
  refine .inr ?_
  rw [List.all_eq_false]
  exact ⟨x, List.mem_of_getElem? hx, by simp; omega⟩
theorem grt_true {l : List (Int × List UInt8)} (h : grt l = true) : l.length ≤ 60 ∧ ∀ x ∈ l, x.2.length ≤ 500 := by
  unfold grt at h
  rw [Bool.and_eq_true, List.all_eq_true] at h
  exact ⟨of_decide_eq_true h.1, fun x hx => of_decide_eq_true (h.2 x hx)⟩
/-- A copy's records: kinds, payloads' places, and bytes. -/
def gcells (l : List (Int × Value × List UInt8)) : List Value := l.flatMap fun x => [.int .i64 x.1, x.2.1]
def GPays (l : List (Int × Value × List UInt8)) (W : World) : Prop := ∀ x ∈ l, HB W x.2.1 x.2.2
def gkp (x : Int × Value × List UInt8) : Int × List UInt8 := (x.1, x.2.2)
theorem gcells_snoc (l : List (Int × Value × List UInt8)) (x : Int × Value × List UInt8) : gcells (l ++ [x]) = gcells l ++ [.int .i64 x.1, x.2.1] := by simp [gcells]
theorem gcells_get (l : List (Int × Value × List UInt8)) : ∀ (i : Nat) (x : Int × Value × List UInt8), l[i]? = some x → (gcells l)[2 * i]? = some (.int .i64 x.1) ∧ (gcells l)[2 * i + 1]? = some x.2.1 := by
  induction l with
  | nil => intro i x h; simp at h
  | cons y l ih =>
    intro i x h
    have e : gcells (y :: l) = .int .i64 y.1 :: y.2.1 :: gcells l := by simp [gcells]
    cases i with
    | zero => simp only [List.getElem?_cons_zero, Option.some.injEq] at h; subst h; rw [e]; simp
    | succ i =>
      rw [List.getElem?_cons_succ] at h
      have := ih i x h
      rw [e, show 2 * (i + 1) = 2 * i + 1 + 1 by omega, show 2 * i + 1 + 1 + 1 = (2 * i + 1) + 1 + 1 by omega]
      simpa using this
theorem RS.of_g {W : World} {B : Nat} {u : Value} {ys : List (Int × Value × List UInt8)} (h : W.ownsRow B 48 2 u ys.length (gcells ys)) (hp : GPays ys W) : RS W u (ys.map gkp) := by
  have hh := h
  rcases h.2 with ⟨rfl, he⟩ | ⟨g, cap, cur, rfl, h1, h2, h3, _⟩
  · have : ys = [] := by
      cases ys with
      | nil => rfl
      | cons y l => simp at he
    subst this
    exact ⟨none, 0, rfl, Nat.zero_le _, fun _ => rfl, fun a ha => by cases ha⟩
  · refine ⟨some ⟨g, 0, none⟩, cap, by simp, by simpa using h3, (fun e => by cases e), fun a ha i x hx => ?_⟩
    injection ha with ha
    subst ha
    rw [List.getElem?_map, Option.map_eq_some_iff] at hx
    obtain ⟨y, hy, rfl⟩ := hx
    obtain ⟨e1, e2⟩ := gcells_get ys i y hy
    exact ⟨y.2.1, rfl, hh.cells rfl _ _ e1, hh.cells rfl _ _ e2, hp y (List.mem_of_getElem? hy)⟩
theorem St.gpay {w W : World} {L : List Res} {Fs : List (World → Prop)} (h : St w W L Fs) (i j : Nat) {pre : List (Int × Value × List UInt8)} {x : Int × Value × List UInt8} (hi : L[i]? = some (Row x.2.1 5 1 x.2.2.length (bs x.2.2))) (hj : Fs[j]? = some (GPays pre)) : St w W (L.eraseIdx i) (GPays (pre ++ [x]) :: Fs) := by
  have h1 := h.freeze hi
  refine (h1.addF (F := GPays (pre ++ [x])) fun W' hs y hy => ?_).dropF (fun G hG => ?_)
  · rcases List.mem_append.1 hy with hy | hy
    · exact h1.facts _ (List.mem_cons_of_mem _ (List.mem_of_getElem? hj)) W' hs y hy
    · simp at hy; subst hy
      exact Row.hb (h1.facts _ (List.mem_cons_self ..) W' hs)
  · rcases List.mem_cons.1 hG with rfl | hG
    · exact List.mem_cons_self ..
    · exact List.mem_cons_of_mem _ (List.mem_cons_of_mem _ hG)
theorem appN (b : List UInt8) (k : UInt8) : recB (UInt8.ofNat ((k.toNat : Int)).toNat) b = recB k b := by simp
set_option maxHeartbeats 1000000 in
set_option maxRecDepth 100000 in
theorem great18 (u : Value) (l : List (Int × List UInt8)) (w : World) (hu : RS w u l) :
    Calls Try.prog 19 #[u] w fun e w' => e = .returned (.int .i64 (grtI l)) ∧ w = w' := by
  have HU := Lib.hid hu
  obtain ⟨A, c, rfl, hlc⟩ := hu.shape
  clear hu
  by_cases h60 : l.length ≤ 60
  · have j0 : ¬ (60 : Int) < (l.length : Int) := by omega
    go_enter Try.func19, Try.ntmps19
    go_wp2_with fail
    go_loopw [3] (fun s3 wr => ∃ i : Nat, i ≤ l.length ∧ s3 = .int .i64 (i : Int) ∧ (∀ x ∈ l.take i, x.2.length ≤ 500) ∧ w = wr) (fun s3 _ => l.length - (intOf s3).toNat)
    case atStart => exact ⟨0, by omega, rfl, fun x hx => by simp at hx, rfl⟩
    case round =>
      obtain ⟨i, hi, rfl, hall, rfl⟩ := hrel
      have HALL := Lib.hid hall
      clear hall
      by_cases hlt : i < l.length
      · obtain ⟨bb, o, pv, rfl, c1, c2, hbp⟩ := HU.out.get hlt
        have hli : l[i]? = some l[i] := List.getElem?_eq_getElem hlt
        generalize l[i] = x at *
        obtain ⟨k, p⟩ := x
        dsimp only at c1 c2 hbp
        obtain ⟨Ap, cp, rfl, hpc⟩ := hbp.shape
        have HLI := Lib.hid hli; have C1 := Lib.hid c1; have C2 := Lib.hid c2
        have HBP := Lib.hid hbp.away0
        have HR1 := Lib.hid (range_away0 (range2 c1 c2))
        have j1 : (i : Int) < (l.length : Int) := by omega
        clear hli c1 c2 hbp
        by_cases h5 : p.length ≤ 500
        · have k5 : ¬ (500 : Int) < (p.length : Int) := by omega
          go_wp2_with (first
            | (refine wl (by rfl) (wp_of_run (run_ld (by kernel_rfl) (by rfl) (by rfl) C2.out) ?_)))
          refine ⟨⟨i + 1, by omega, by push_cast; rfl, fun y hy => ?_, by trivial⟩, by simp [intOf]; omega⟩
          rw [take_snoc l i _ HLI.out] at hy
          rcases List.mem_append.1 hy with hy | hy
          · exact HALL.out y hy
          · simp at hy; subst hy; exact h5
        · have k5 : (500 : Int) < (p.length : Int) := by omega
          go_wp2_with (first
            | (refine wl (by rfl) (wp_of_run (run_ld (by kernel_rfl) (by rfl) (by rfl) C2.out) ?_)))
          go_ret
          have hg : grt l = false := grt_false HLI.out (show 500 < p.length by omega)
          exact ⟨by unfold grtI; rw [hg]; rfl, rfl⟩
      · have j1 : ¬ (i : Int) < (l.length : Int) := by omega
        go_wp2_with fail
        go_ret
        have hg : grt l = true := by
          unfold grt
          rw [Bool.and_eq_true, List.all_eq_true]
          refine ⟨decide_eq_true h60, fun x hx => decide_eq_true (HALL.out x ?_)⟩
          rw [List.take_of_length_le (by omega)]; exact hx
        exact ⟨by unfold grtI; rw [hg]; rfl, rfl⟩
  · have j0 : (60 : Int) < (l.length : Int) := by omega
    have hg : grt l = false := by unfold grt; rw [decide_eq_false h60]; rfl
    have HG := Lib.hid hg
    clear hg
    go_enter Try.func19, Try.ntmps19
    go_wp2_with fail
    go_ret
    exact ⟨by unfold grtI; rw [HG.out]; rfl, rfl⟩
set_option maxHeartbeats 1000000 in
set_option maxRecDepth 100000 in
theorem enc21 (u : Value) (l : List (Int × List UInt8)) (w : World) (hu : RS w u l) (hl : l.length ≤ 1000000) :
    Calls Try.prog 54 #[u] w fun e w' => ∃ v', e = .returned (.tuple #[v', .int .i64 (encE l)]) ∧ New w w' (Row v' 5 1 (encO l).length (bs (encO l))) := by
  have HU := Lib.hid hu
  obtain ⟨A, c, rfl, hlc⟩ := hu.shape
  have hS1 := (St.start w).new (Below.refl _ _) (r := Row (.slice none 0 0) 5 1 0 []) (World.ownsRow_nil _ _ _ _) (fun k hk => by simp [Row, Value.ownBlock] at hk)
  have HS := Lib.hid hS1
  clear hu hS1
  go_enter Try.func54, Try.ntmps54
  go_wp2_with fail
  go_loopw [4, 5] (fun s4 s5 wr => ∃ (i : Nat) (v4 : Value), i ≤ l.length ∧ s5 = .int .i64 (i : Int) ∧ s4 = v4 ∧ (∀ x ∈ l.take i, chkB x.1 x.2.length = true) ∧ (encL (l.take i)).length ≤ i * 200013 ∧ St w wr [Row v4 5 1 (encL (l.take i)).length (bs (encL (l.take i)))] []) (fun _ s5 _ => l.length - (intOf s5).toNat)
  case atStart => exact ⟨0, _, by omega, rfl, rfl, fun x hx => by simp at hx, by simp [encL], HS.out⟩
  case round =>
    obtain ⟨i, v4, hi, rfl, rfl, hall, htot, hs⟩ := hrel
    have HALL := Lib.hid hall
    clear HS
    clear hall
    obtain ⟨A4, c4, rfl⟩ := Row.sl (hs.res (i := 0) rfl)
    by_cases hlt : i < l.length
    · obtain ⟨bb, o, pv, rfl, c1, c2, hbp⟩ := HU.out.get hlt
      have hli : l[i]? = some l[i] := List.getElem?_eq_getElem hlt
      generalize l[i] = x at *
      obtain ⟨k, p⟩ := x
      dsimp only at c1 c2 hbp
      obtain ⟨Ap, cp, rfl, hpc⟩ := hbp.shape
      have HLI := Lib.hid hli; have C1 := Lib.hid c1; have C2 := Lib.hid c2
      have HBP := Lib.hid hbp.away0
      have HR1 := Lib.hid (range_away0 (range2 c1 c2))
      have j1 : (i : Int) < (l.length : Int) := by omega
      clear hli c1 c2 hbp
      cases hc : chkB k p.length with
      | false =>
        have HC := Lib.hid hc
        have HS := Lib.hid ((hs.old HBP.out).old HR1.out)
        clear hs hc
        go_wp2_with (first
          | (refine wl (by rfl) (wp_of_run (run_lda (n := 2) (cs := [.int .i64 k, .slice Ap p.length cp]) ag25 (by rfl) (by rfl) (HS.out.fact (i := 0) rfl) (by rfl)) ?_))
          | (go_at_call 63; refine (check24 k (.slice Ap p.length cp) p _ (HS.out.fact (i := 1) rfl)).mono ?_; rintro e Wn ⟨rfl, hb⟩; rw [HC.out]; have hS := HS.out.call hb; clear hb; clear HS; have HS := Lib.hid hS; clear hS))
        go_ret2
        have hko : okL l = false := okL_take HLI.out HC.out
        refine ⟨_, by unfold encE; rw [hko]; rfl, ?_⟩
        unfold encO
        rw [hko]
        exact New.row (World.ownsRow_nil _ _ _ _) HS.out.below
      | true =>
        have HC := Lib.hid hc
        obtain ⟨kb, rfl, hpl⟩ := chkB_true hc
        clear hc
        have HS := Lib.hid ((hs.old HBP.out).old HR1.out)
        clear hs
        go_wp2_with (first
          | (refine wl (by rfl) (wp_of_run (run_lda (n := 2) (cs := [.int .i64 (kb.toNat : Int), .slice Ap p.length cp]) ag25 (by rfl) (by rfl) (HS.out.fact (i := 0) rfl) (by rfl)) ?_))
          | (go_at_call 63; refine (check24 (kb.toNat : Int) (.slice Ap p.length cp) p _ (HS.out.fact (i := 1) rfl)).mono ?_; rintro e Wn ⟨rfl, hb⟩; rw [HC.out]; have hS := HS.out.call hb; clear hb; clear HS; have HS := Lib.hid hS; clear hS)
          | (go_at_call 53; refine (one39 kb _ p _ (HS.out.fact (i := 1) rfl) hpl).mono ?_; rintro e Wn ⟨v2, rfl, hb⟩; have hS := HS.out.take hb; clear hb; clear HS; have HS := Lib.hid hS; clear hS)
          | (refine wl (by rfl) (s_app (xs := encL (l.take i)) HS.out 1 (by rfl) Try.underlying28 u8_info (by rfl) (by rfl) (by rfl) (Row.hb (HS.out.res (i := 0) rfl)) (by rw [recB_length]; omega) ?_); intro v3 Wn hS; clear HS; have HS := Lib.hid hS; clear hS))
        have e1 : encL (l.take (i + 1)) = encL (l.take i) ++ recB kb p := by
          rw [take_snoc l i _ HLI.out, encL_snoc]
          simp
        have hS := (HS.out.sub 0).dropF (Gs := []) (fun G hG => by cases hG)
        refine ⟨⟨i + 1, v3, by omega, by push_cast; rfl, rfl, fun y hy => ?_, ?_, by rw [e1]; exact hS⟩, by simp [intOf]; omega⟩
        · rw [take_snoc l i _ HLI.out] at hy
          rcases List.mem_append.1 hy with hy | hy
          · exact HALL.out y hy
          · simp at hy; subst hy; exact HC.out
        · rw [e1, List.length_append, recB_length]
          omega
    · have j1 : ¬ (i : Int) < (l.length : Int) := by omega
      have HS := Lib.hid hs
      clear hs
      go_wp2_with fail
      go_ret2
      have hil : i = l.length := by omega
      have hok : okL l = true := by
        unfold okL
        rw [List.all_eq_true]
        intro y hy
        exact HALL.out y (by rw [hil, List.take_length]; exact hy)
      have e1 : encO l = encL (l.take i) := by unfold encO; rw [hok, hil, List.take_length]; rfl
      refine ⟨_, by unfold encE; rw [hok]; rfl, ?_⟩
      rw [e1]
      exact HS.out.give (i := 0) rfl
end
section
open Go Go.RowKit Go.Proofs
attribute [local irreducible] Calls
end
end Go.Proofs.Ytakeggdpnfibpaa
