/- Contracts and words that the laws stand on (SegD). -/
import Derived.Test.YtakeggdpnfibpaaSegC
import Derived.Test.YtakeggdpnfibpaaRecI
import Derived.Test.YtakeggdpnfibpaaRecJ
import Derived.Test.YtakeggdpnfibpaaRecK
import Derived.Test.YtakeggdpnfibpaaLawA
set_option linter.unusedVariables false
set_option linter.unusedSimpArgs false
namespace Go.Proofs.Ytakeggdpnfibpaa
section
open Go Go.RowKit Go.Proofs
attribute [local irreducible] Calls

def G1 : Grp := [((3 : Int), [120])]
theorem g1_len : (encL (segL 1 G1)).length = 39 := by
  unfold segL G1 mkr
  rw [encL_app, List.length_append, encL_cons, encL_cons, List.length_append, List.length_append, recB_length, recB_length]
  simp [le_length, encL]
theorem g1_ok : segOk 1 G1 = true := segOk_iff.2 ⟨by decide, by decide, by decide, by decide, by rw [g1_len]; decide⟩
theorem g1_read : ReadP (encL (segL 1 G1)) 1 [G1] 39 := by
  have h := read_full (num := 1) (gs := [G1]) ⟨g1_ok, trivial⟩ (by decide)
  have e : encG 1 [G1] = encL (segL 1 G1) := by simp [encG]
  rw [e, g1_len] at h
  exact h
theorem g1_none : ReadP (encL (segL 1 G1)) 2 [] 0 := by
  refine ⟨rfl, trivial, by decide, _, rfl, fun _ g q hg e => ?_⟩
  obtain ⟨_, _, h3, h4, _⟩ := segOk_iff.1 hg
  obtain ⟨_, h5, _⟩ := grp_same (n := 1) (n' := 2) (l := G1) (m := g) (p := []) (q := q) (by decide) (by decide) h3 h4 (by rw [List.append_nil]; exact e)
  have h6 := congrArg (fun x => x.2.take 1) h5
  have h7 : (le 8 1).take 1 = [1] := by decide
  have h8 : (le 8 2).take 1 = [2] := by decide
  simp only [mkr] at h6
  rw [List.take_append_of_le_length (by simp [le_length]), List.take_append_of_le_length (by simp [le_length]), h7] at h6
  rw [h8] at h6
  exact absurd h6 (by decide)
theorem cells_one' {W : World} {A : Option Addr} {c : Nat} {gl : List (Value × Grp)} (h : GSv W (.slice A 1 c) gl) (hg : gl.map (·.2) = [G1]) : ∃ b o b2 o2 c2 Ap cp, A = some ⟨b, o, none⟩ ∧ W.cell? ⟨b, o, none⟩ = some (.slice (some ⟨b2, o2, none⟩) 1 c2) ∧ W.cell? ⟨b2, o2, none⟩ = some (.int .i64 3) ∧ W.cell? ⟨b2, o2 + 1, none⟩ = some (.slice Ap 1 cp) ∧ HB W (.slice Ap 1 cp) [120] := by
  match gl, hg with
  | [(xv, g)], hg =>
    simp at hg
    subst hg
    obtain ⟨b, o, rfl, h1, h2⟩ := h.get (i := 0) (by exact Nat.zero_lt_one)
    dsimp only [List.getElem_cons_zero] at h1 h2
    obtain ⟨A2, c2, rfl, _⟩ := h2.shape
    obtain ⟨b2, o2, pv, rfl, h3, h4, h5⟩ := h2.get (i := 0) (by exact Nat.zero_lt_one)
    obtain ⟨Ap, cp, rfl, _⟩ := h5.shape
    exact ⟨b, o, b2, o2, c2, Ap, cp, rfl, h1, h3, h4, h5⟩
set_option maxHeartbeats 1000000 in
set_option maxRecDepth 100000 in
theorem alive8 (w : World) : Calls Try.prog 8 #[] w fun e w' => e = .returned (.bool true) ∧ Below w.heap.size w w' := by
  have hlen := g1_len
  have hr1 := g1_read
  have hr2 := g1_none
  have hC13 : ∀ u W, RS W u [((3 : Int), [120])] → Calls Try.prog 13 #[.int .u64 1, u] W fun e w' => ∃ g c, e = .returned (.tuple #[.slice (some ⟨g, 0, none⟩) 39 c, .int .i64 0]) ∧ New W w' (Row (.slice (some ⟨g, 0, none⟩) 39 c) 5 1 39 (bs (encL (segL 1 G1)))) := fun u W hu => by
    have h := seg13_yes 1 u G1 W (by decide) hu (by decide) g1_ok
    rw [hlen] at h
    exact h
  obtain ⟨X, hXX⟩ : ∃ X, encL (segL 1 G1) = X := ⟨_, rfl⟩
  rw [hXX] at hlen hr1 hr2
  simp only [hXX] at hC13
  have hX : ∀ v W, (Row v 5 1 39 (bs X)).ok W → HB W v X := fun v W h => HB.of_own (hlen ▸ h)
  have hR1 : ∀ v W, HB W v X → Calls Try.prog 11 #[v, .int .u64 1] W fun e w' => ∃ A c gl, e = .returned (.tuple #[.slice A 1 c, .int .i64 39]) ∧ gl.map (·.2) = [G1] ∧ Below W.heap.size W w' ∧ Away (fun k => k < W.heap.size) (fun V => GSv V (.slice A 1 c) gl) w' := fun v W h => read11_gs v X 1 W h (by decide) (by omega) _ _ hr1
  have hR2 : ∀ v W, HB W v X → Calls Try.prog 11 #[v, .int .u64 2] W fun e w' => ∃ A c gl, e = .returned (.tuple #[.slice A 0 c, .int .i64 0]) ∧ gl.map (·.2) = [] ∧ Below W.heap.size W w' ∧ Away (fun k => k < W.heap.size) (fun V => GSv V (.slice A 0 c) gl) w' := fun v W h => read11_gs v X 2 W h (by decide) (by omega) _ _ hr2
  have C13 := Lib.hid hC13; have HX := Lib.hid @hX; have R1 := Lib.hid hR1; have R2 := Lib.hid hR2
  clear hC13 hX hR1 hR2 hlen hr1 hr2 hXX
  have HS := Lib.hid (St.start w)
  go_enter Try.func8, Try.ntmps8
  go_wp2_with (first
    | (refine atd 8 (by rfl) ?_; refine wl (by rfl) (s_bs (E := 5) (z := (.int .u8 0)) HS.out 1 1 (bs [120]) (by rfl) Try.underlying28 (by kernel_rfl) (by rfl) (by decide) (by decide) (by kernel_rfl) (by rfl) (by decide) ?_); intro b8 Wn hS; clear HS; have HS := Lib.hid hS; clear hS)
    | (refine wl (by rfl) (s_cv (xs := [120]) HS.out 0 (by rfl) (by rfl) (by rfl) ?_); intro Wn hS; clear HS; have HS := Lib.hid hS; clear hS)
    | (refine atd 11 (by rfl) ?_; refine wl (by rfl) (s_bs (E := 48) (z := (.agg #[.int .i64 0, .slice none 0 0])) HS.out 1 2 [.int .i64 3, .slice (some ⟨b8, 0, none⟩) 1 1] (by rfl) Try.underlying37 (by kernel_rfl) (by rfl) (by decide) (by decide) (by kernel_rfl) (by rfl) (by decide) ?_); intro b11 Wn hS; clear HS; have HS := Lib.hid hS; clear hS)
    | (go_at_call 13; refine (C13.out _ _ (RS.of_lit (HS.out.res (i := 0) rfl) (LitR.hb (HS.out.res (i := 1) rfl)))).mono ?_; rintro e Wn ⟨g1, c1, rfl, hb⟩; have hS := HS.out.take hb; clear hb; clear HS; have HS := Lib.hid hS; clear hS)
    | (go_at_call 11; refine (R1.out _ _ (HX.out _ _ (HS.out.res (i := 0) rfl))).mono ?_; rintro e Wn ⟨A17, c17, gl, rfl, hgl, hb, hw⟩; have hS := HS.out.tell hb hw; have HGL := Lib.hid hgl; clear hb hw hgl; clear HS; have HS := Lib.hid hS; clear hS)
    | (go_at_call 11; refine (R2.out _ _ (HX.out _ _ (HS.out.res (i := 0) rfl))).mono ?_; rintro e Wn ⟨A22, c22, gl2, rfl, hgl2, hb, hw⟩; have hS := HS.out.call hb; clear hb hw hgl2; clear HS; have HS := Lib.hid hS; clear hS; obtain ⟨bq, oq, b2, o2, c2, Ap, cp, rfl, k1, k2, k3, k4⟩ := cells_one' (HS.out.fact (i := 0) rfl) HGL.out; have K1 := Lib.hid k1; have K2 := Lib.hid k2; have K3 := Lib.hid k3; have K4 := Lib.hid k4; clear k1 k2 k3 k4)
    | (refine atd 40 (by rfl) ?_; refine wl (by rfl) (wp_of_run (run_ld (by kernel_rfl) (by rfl) (by rfl) K1.out) ?_))
    | (refine atd 47 (by rfl) ?_; refine wl (by rfl) (wp_of_run (run_ld (by kernel_rfl) (by rfl) (by rfl) K1.out) ?_))
    | (refine atd 50 (by rfl) ?_; refine wl (by rfl) (wp_of_run (run_ld (by kernel_rfl) (by rfl) (by rfl) K2.out) ?_))
    | (refine atd 56 (by rfl) ?_; refine wl (by rfl) (wp_of_run (run_ld (by kernel_rfl) (by rfl) (by rfl) K1.out) ?_))
    | (refine atd 59 (by rfl) ?_; refine wl (by rfl) (wp_of_run (run_ld (by kernel_rfl) (by rfl) (by rfl) K3.out) ?_))
    | (refine atd 60 (by rfl) ?_; refine wl (by rfl) (wp_of_run (run_str (xs := [120]) (by rfl) (by rfl) K4.out) ?_)))

  go_ret
  exact ⟨rfl, HS.out.below⟩
end
section
open Go Go.RowKit Go.Proofs
attribute [local irreducible] Calls

theorem run_cutG (A : Option Addr) (n c k : Nat) (hk : k ≤ n) (hn : n ≤ c) (W : World) :
    (Instr.slice 22 (.slice A n c) none (some (.int .i64 (k : Int))) none).run Try.prog W = .ok (.slice A k c) W := by
  have ht' : Try.prog.underlying 22 = some (.slice (Try.prog.elem 22)) := by simp [Program.elem, Try.underlying22]
  have he : Try.prog.elem 22 = 37 := by simp [Program.elem, Try.underlying22]
  have hz : ∀ w, (Go.sizeOf 37).run Try.prog w = .ok 1 w := fun w => by kernel_rfl
  rw [run_slice_h W 22 _ _ _ ht' .i64 _ (by omega) (by omega), he, hz]
  cases A <;> simp [Result.andThen, sliced, Addr.add]
theorem run_slG {W : World} {o : Oper} {ev : Operand → Value} {x y : Operand} {A : Option Addr} {n c : Nat} (k : Nat) (ho : o.op = .slice 22 x none (some y) none) (hx : ev x = .slice A n c) (hy : ev y = .int .i64 (k : Int)) (hk : k ≤ n) (hn : n ≤ c) : (execOp ev o).run Try.prog W = .ok (.value (.slice A k c)) W := by
  have h := run_cutG A n c k hk hn W
  unfold execOp
  simp only [ho, hx, hy, Instr.sliceAt, run_underlying Try.underlying22, Option.map_some, Option.map_none, Sem.run_bind, Sem.run_pure, Result.andThen_ok, h]
theorem GSv.cap {W : World} {A : Option Addr} {n c : Nat} {l : List (Value × Grp)} (h : GSv W (.slice A n c) l) : n ≤ c := by
  obtain ⟨_, _, e, h1, _⟩ := h
  injection e with _ e2 e3
  omega
theorem written10_f (num : Nat) (u : Value) (l : List (Value × Grp)) (w : World) (hn : num + 20 < 18446744073709551616) (hu : GSv w u l) (hl : l.length ≤ 20) (hl2 : ∀ x ∈ l, x.2.length ≤ 100000) (Z : List (Value × Grp)) (S : List UInt8) (hZ : mayV num l = Z) (hS : encG num (Z.map (·.2)) = S) :
    Calls Try.prog 10 #[.int .u64 (num : Int), u] w fun e w' => ∃ A c B d, e = .returned (.tuple #[.slice A S.length c, .slice B Z.length d]) ∧ St w w' [] [fun V => GSv V (.slice B Z.length d) Z, fun V => HB V (.slice A S.length c) S] := by
  subst hZ
  subst hS
  refine (written10 num u l w hn hu hl hl2).mono ?_
  rintro e w' ⟨A, c, B, d, rfl, hs⟩
  refine ⟨A, c, B, d, rfl, ?_⟩
  have h2 := (hs.freeze (i := 0) rfl).freeze (i := 0) rfl
  refine ⟨h2.below, (fun r hr => by simp at hr), (fun i j r s h => by simp at h), fun F hF => ?_⟩
  simp only [List.mem_cons, List.not_mem_nil, or_false] at hF
  rcases hF with rfl | rfl
  · intro V hv
    have f1 := h2.facts _ (List.mem_cons_self ..) V hv
    have f2 := h2.facts (fun V => GSv V u l) (by simp) V hv
    exact GSv.of_row (B := 0) f1 (fun x hx => f2.rs_mem x (mayV_mem num l x hx))
  · intro V hv
    exact Row.hb (h2.facts _ (List.mem_cons_of_mem _ (List.mem_cons_self ..)) V hv)
theorem read11_z (v : Value) (xs : List UInt8) (num : Nat) (w : World) (h : HB w v xs) (hn : num < 18446744073709551616) (Z : List Grp) (k m : Nat) (hk : Z.length = k) (hp : ReadP xs num Z m) (hl : xs.length ≤ 1000000) :
    Calls Try.prog 11 #[v, .int .u64 (num : Int)] w fun e w' => ∃ A c gl, e = .returned (.tuple #[.slice A k c, .int .i64 (m : Int)]) ∧ gl.map (·.2) = Z ∧ Below w.heap.size w w' ∧ Away (fun k => k < w.heap.size) (fun V => GSv V (.slice A k c) gl) w' := by
  subst hk
  exact read11_gs v xs num w h hn hl Z m hp
theorem gl_small {Z gl : List (Value × Grp)} {B : Nat} (h : gl.map (·.2) = Z.map (·.2)) (hz : ∀ x ∈ Z, x.2.length ≤ B) : ∀ x ∈ gl, x.2.length ≤ B := by
  intro x hx
  have : x.2 ∈ Z.map (·.2) := by rw [← h]; exact List.mem_map_of_mem hx
  obtain ⟨y, hy, e⟩ := List.mem_map.1 this
  rw [← e]
  exact hz y hy
theorem gl_len {Z gl : List (Value × Grp)} (h : gl.map (·.2) = Z.map (·.2)) : gl.length = Z.length := by
  have := congrArg List.length h
  simpa using this
theorem same12_d (u v : Value) (l m : List (Value × Grp)) (d : Bool) (w : World) (hd : decide (l.map (·.2) = m.map (·.2)) = d) (hu : GSv w u l) (hv : GSv w v m) (hl : ∀ x ∈ l, x.2.length ≤ 1000000) (hm : ∀ x ∈ m, x.2.length ≤ 1000000) (hl1 : l.length ≤ 1000000) (hm1 : m.length ≤ 1000000) :
    Calls Try.prog 12 #[u, v] w fun e w' => e = .returned (.bool d) ∧ Below w.heap.size w w' := by
  subst hd; exact same12 u v l m w hu hv hl hm hl1 hm1
theorem u8_wf {n : Int} (h : (Lit.int .u8 n).wf = true) : 0 ≤ n ∧ n < 256 := by simp [Lit.wf, IntKind.min, IntKind.max, IntKind.signed, IntKind.bits] at h; omega
theorem cells37 : Try.prog.cellsOf 37 = 1 := by kernel_rfl
open Go.ChangeShapes in
theorem gs_of {w : World} {a : Option Addr} {len cap : Nat} (g : Rd Try.prog w 22 [.slice a len cap]) : ∃ l, GSv w (.slice a len cap) l := by
  obtain ⟨a', len', cap', e, h⟩ := g.slice Try.underlying22
  injection e with e _
  injection e with e1 e2 e3
  subst e1 e2 e3
  rcases h with ⟨rfl, rfl, rfl⟩ | ⟨x, rfl, hl, hml, hc⟩
  · exact ⟨[], none, 0, rfl, Nat.le_refl _, fun _ => rfl, fun a ha => by cases ha⟩
  · obtain ⟨ds, hdl, hd⟩ := list_of (n := len) (p := fun i (d : Value × Grp) => w.cell? (x.add i) = some d.1 ∧ RS w d.1 d.2) (fun i hi => by
      obtain ⟨cs, hcs, hr⟩ := hc i (by omega)
      rw [cells37] at hcs
      obtain ⟨hlen, hcell⟩ := cells_spec hcs
      match cs, hlen with
      | [v0], _ =>
        obtain ⟨a0, l0, c0, e0, _⟩ := hr.slice Try.underlying37
        simp at e0
        subst e0
        obtain ⟨g, hg⟩ := rs_of hr
        have h0 := hcell 0 (by omega)
        rw [Nat.mul_one, addr0] at h0
        exact ⟨(_, g), by simpa using h0, hg⟩)
    refine ⟨ds, some x, cap, by rw [hdl], by omega, (fun e => by cases e), fun a ha i d hi => ?_⟩
    injection ha with ha
    subst ha
    obtain ⟨c1, hb⟩ := hd i d hi
    have h0 : 0 < ds.length := by have := (List.getElem?_eq_some_iff.1 hi).1; omega
    obtain ⟨z1, _⟩ := hd 0 _ (List.getElem?_eq_getElem h0)
    rw [addr0] at z1
    exact ⟨spot_of z1, c1, hb⟩
end
end Go.Proofs.Ytakeggdpnfibpaa
