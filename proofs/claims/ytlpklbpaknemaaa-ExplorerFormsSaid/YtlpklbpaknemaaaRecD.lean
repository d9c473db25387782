/- Contracts and words that the laws stand on (RecD). -/
import Derived.Test.YtlpklbpaknemaaaRng
import Derived.Test.YtlpklbpaknemaaaRecC
import Derived.Test.YtlpklbpaknemaaaRecA
set_option linter.unusedVariables false
set_option linter.unusedSimpArgs false
namespace Go.Proofs.Ytlpklbpaknemaaa
section
open Go Go.RowKit Go.Proofs
open Go.Shelf in
attribute [local go_sem] Oper.semAt_some
attribute [local irreducible] Calls

/-- An item of the loop: kind, payload, place behind it, and the payload's slice. -/
structure RecI where
  k : UInt8
  p : List UInt8
  nx : Int
  v : Value
def RecI.strip (x : RecI) : UInt8 × List UInt8 × Int := (x.k, x.p, x.nx)
def encR (x : RecI) : Array Value := #[.int .i64 x.nx, .agg #[.int .i64 (x.k.toNat : Int), x.v]]
/-- All records from place i on (f: a bound on how many). -/
def allF (xs : List UInt8) : Nat → Int → List (UInt8 × List UInt8 × Int)
  | 0, _ => []
  | f + 1, i => match decR xs i with
    | none => []
    | some (k, p) => (k, p, i + 13 + (p.length : Int)) :: allF xs f (i + 13 + (p.length : Int))
theorem allF_none {xs : List UInt8} {i : Int} (h : decR xs i = none) (f : Nat) : allF xs f i = [] := by
  cases f with
  | zero => rfl
  | succ f => unfold allF; rw [h]
theorem allF_some {xs : List UInt8} {i : Int} {k : UInt8} {p : List UInt8} (h : decR xs i = some (k, p)) (f : Nat) : allF xs (f + 1) i = (k, p, i + 13 + (p.length : Int)) :: allF xs f (i + 13 + (p.length : Int)) := by
  rw [allF, h]
theorem allF_len (xs : List UInt8) : ∀ (f : Nat) (i : Int), (allF xs f i).length ≤ f := by
  intro f
  induction f with
  | zero => intro i; simp [allF]
  | succ f ih =>
    intro i
    cases h : decR xs i with
    | none => rw [allF_none h]; simp
    | some x => rw [allF_some h]; simp only [List.length_cons]; have := ih (i + 13 + (x.2.length : Int)); omega
theorem decR_in {xs : List UInt8} {i : Int} {k : UInt8} {p : List UInt8} (h : decR xs i = some (k, p)) : 0 ≤ i ∧ i + 13 ≤ xs.length := by
  by_cases hb : i < 0 ∨ (xs.length : Int) < i ∨ (xs.length : Int) - i < 13
  · rw [decR_far hb] at h; cases h
  · omega
def at3 (b : Nat) (W : World) : Int := match W.cell? ⟨b, 0, none⟩ with
  | some v => intOf v
  | none => 0
def Kept (m b2 b3 : Nat) : World → World → Prop := Keeps (fun k => k = b2 ∨ k = b3 ∨ k < m)
def RecNew (x : RecI) (A B : World) : Prop := B.ownsRow A.heap.size 5 1 x.v x.p.length (bs x.p)
set_option maxHeartbeats 2000000 in
set_option maxRecDepth 100000 in
theorem each1_in (n m b2 b3 : Nat) (hn : 1 ≤ n) (v : Value) (xs : List UInt8) (i0 : Int) (w : World) (hb2 : w.heap[b2]? = some (.cells #[v] 22 (0, 0))) (hb3 : w.heap[b3]? = some (.cells #[.int .i64 i0] 3 (0, 0))) (h23 : b2 ≠ b3) (hv : HB w v xs) (hvm : xs ≠ [] → ∀ k, v.ownBlock = some k → k < m) (hm2 : m ≤ b3) (hl : xs.length ≤ 1000000) :
    SeqG Fence.wide n Try.prog 67 #[.pointer (some ⟨b2, 0, none⟩), .pointer (some ⟨b3, 0, none⟩)] encR (Kept m b2 b3) b3 RecNew (fun ys => ys.map RecI.strip = allF xs (xs.length + 1) i0) (fun ys => ys.map RecI.strip <+: allF xs (xs.length + 1) i0) (xs.length + 1) w := by
  intro l J Jx W hK hW hJ hJx hY h0
  have k2 := (hK b2 (.inl rfl)).trans hb2
  have k3 := (hK b3 (.inr (.inl rfl))).trans hb3
  have kv : HB W v xs := by
    obtain ⟨A, c, rfl, e0, e1, e2⟩ := hv
    exact ⟨A, c, rfl, e0, e1, fun a ha i x hx => hK.cell (e2 a ha i x hx) (.inr (.inr (hvm (fun e => by subst e; simp at hx) _ (by subst ha; simp [Value.ownBlock, blk_of_add]))))⟩
  have HY := Lib.hid hY; have HJ := Lib.hid hJ; have HJX := Lib.hid hJx
  clear hY hJ hJx hb2 hb3 hv hW hK
  have h12 : Fence.wide.fn 12 := trivial
  refine callsIn_of_wp Try.func67 rfl trivial ?_ rfl
  simp only [Try.ntmps67, List.size_toArray, List.length_cons, List.length_nil, Nat.reduceAdd, Nat.reduceSub, Array.replicate_succ, Array.replicate_zero, List.push_toArray, List.append_toArray, List.nil_append, List.cons_append]
  gi_wp2_with fail
  gi_loopw [] (fun wr => ∃ (f : Nat) (i : Int) (pre : List RecI), allF xs (xs.length + 1) i0 = pre.map RecI.strip ++ allF xs f i ∧ (0 ≤ i → (xs.length : Int) - i < f) ∧ wr.heap[b2]? = some (.cells #[v] 22 (0, 0)) ∧ wr.heap[b3]? = some (.cells #[.int .i64 i] 3 (0, 0)) ∧ HB wr v xs ∧ J pre wr) (fun wr => ((xs.length : Int) + 1 - at3 b3 wr).toNat)
  case atStart => exact ⟨xs.length + 1, i0, [], rfl, fun _ => by omega, k2, k3, kv, h0⟩
  case round =>
    obtain ⟨f, i, pre, hall, hf, k2, k3, kv, hJ⟩ := hrel
    have hc2 : wr.cell? ⟨b2, 0, none⟩ = some v := (blk_cell k2 0).trans rfl
    have hc3 : wr.cell? ⟨b3, 0, none⟩ = some (.int .i64 i) := (blk_cell k3 0).trans rfl
    have hat : at3 b3 wr = i := by unfold at3; rw [hc3]; rfl
    have hlt3 : b3 < wr.heap.size := blk_lt k3
    have HC2 := Lib.hid hc2; have HC3 := Lib.hid hc3; have HKV := Lib.hid kv; have HJP := Lib.hid hJ; have HALL := Lib.hid hall; have HK2 := Lib.hid k2; have HK3 := Lib.hid k3; have HF := Lib.hid hf; have HAT := Lib.hid hat
    have HS := Lib.hid (St.start wr).sk
    clear hc2 hc3 hall kv hJ hf hat
    cases hd : decR xs i with
    | none =>
      have hD : Calls Try.prog 12 #[v, .int .i64 i] wr fun e w' => e = .returned (.tuple #[.agg #[.int .i64 0, .slice none 0 0], .int .i64 0, .int .i64 160]) ∧ Below wr.heap.size wr w' := by
        refine (dec12_any v xs i wr HKV.out hl).mono fun e w' hp => ?_
        unfold DecPost at hp
        rw [hd] at hp
        exact hp
      have HD := Lib.hid hD; have HDD := Lib.hid hd
      clear hD hd k2 k3
      gi_wp2_with (first
        | (refine il (by rfl) (wpIn_of_run (by intro c h; cases h) (by rfl) (run_ld (by kernel_rfl) (by rfl) (by rfl) HC2.out) ?_))
        | (refine il (by rfl) (wpIn_of_run (by intro c h; cases h) (by rfl) (run_ld (by kernel_rfl) (by rfl) (by rfl) HC3.out) ?_))
        | (gi_at_call 12; refine (callsIn_wide.2 HD.out).mono ?_; rintro e Wn ⟨rfl, hb⟩; have hS := HS.out.call hb; clear hb; clear HS; have HS := Lib.hid hS; clear hS)
        | (refine il (by rfl) (i_al HS.out (by rfl) z25 (by rfl) ?_); intro b4 Wn hS; clear HS; have HS := Lib.hid hS; clear hS)
        | (refine il (by rfl) (i_sta (cs := [.int .i64 0, .slice none 0 0]) HS.out 0 2 (by rfl) (by rfl) (by rfl) ag25 (by rfl) (by rfl) (by intro v hv; simp at hv; rcases hv with rfl | rfl <;> rfl) (by decide) ?_); intro Wn hS; clear HS; have HS := Lib.hid hS; clear hS)
        | (refine il (by rfl) (i_lda (cs := [.int .i64 0, .slice none 0 0]) HS.out 0 2 (by rfl) (by rfl) (by rfl) ag25 (by rfl) (by rfl) ?_)))
      refine ⟨fun f hf => (by cases hf), ?_⟩
      gi_wp2_with fail
      refine bodyPost_ret (results_none rfl _ _ _) rfl ?_
      have hbl := HS.out.st.below
      refine ⟨⟨_, rfl⟩, .inl ⟨pre, ?_, HJ.out pre wr _ HJP.out ⟨Chg.of_belowS _ hbl, i, (hbl.block b3 hlt3).trans HK3.out⟩⟩⟩
      rw [HALL.out, allF_none HDD.out, List.append_nil]
    | some kp =>
      obtain ⟨k, p⟩ := kp
      have hD : Calls Try.prog 12 #[v, .int .i64 i] wr fun e w' => ∃ v', e = .returned (.tuple #[.agg #[.int .i64 (k.toNat : Int), v'], .int .i64 (i + 13 + (p.length : Int)), .int .i64 0]) ∧ New wr w' (Row v' 5 1 p.length (bs p)) := by
        refine (dec12_any v xs i wr HKV.out hl).mono fun e w' hp => ?_
        unfold DecPost at hp
        rw [hd] at hp
        exact hp
      obtain ⟨hi0, hi1⟩ := decR_in hd
      have hfl := HF.out hi0
      obtain ⟨g, rfl⟩ : ∃ g, f = g + 1 := ⟨f - 1, by omega⟩
      have hal : allF xs (g + 1) i = (k, p, i + 13 + (p.length : Int)) :: allF xs g (i + 13 + (p.length : Int)) := allF_some hd g
      have hlen : pre.length < xs.length + 1 := by
        have h1 := allF_len xs (xs.length + 1) i0
        rw [HALL.out, hal] at h1
        simp only [List.length_append, List.length_map, List.length_cons] at h1
        omega
      have HD := Lib.hid hD; have HAL := Lib.hid hal; have HLEN := Lib.hid hlen; have HFL := Lib.hid hfl; have HI := Lib.hid (And.intro hi0 hi1)
      clear hD hd k2 k3 hal hlen hfl hi0 hi1
      gi_wp2_with (first
        | (refine il (by rfl) (wpIn_of_run (by intro c h; cases h) (by rfl) (run_ld (by kernel_rfl) (by rfl) (by rfl) HC2.out) ?_))
        | (refine il (by rfl) (wpIn_of_run (by intro c h; cases h) (by rfl) (run_ld (by kernel_rfl) (by rfl) (by rfl) HC3.out) ?_))
        | (gi_at_call 12; refine (callsIn_wide.2 HD.out).mono ?_; rintro e Wn ⟨v1, rfl, hb⟩; have hS := HS.out.take hb; clear hb; obtain ⟨A1, c1, rfl⟩ := Row.sl (hS.st.res (i := 0) rfl); clear HS; have HS := Lib.hid hS; clear hS)
        | (refine il (by rfl) (i_al HS.out (by rfl) z25 (by rfl) ?_); intro b4 Wn hS; clear HS; have HS := Lib.hid hS; clear hS)
        | (refine il (by rfl) (i_sta (cs := [.int .i64 (k.toNat : Int), .slice A1 p.length c1]) HS.out 0 2 (by rfl) (by rfl) (by rfl) ag25 (by rfl) (by rfl) (by intro v hv; simp at hv; rcases hv with rfl | rfl <;> rfl) (by decide) ?_); intro Wn hS; clear HS; have HS := Lib.hid hS; clear hS; have hbl := HS.out.st.below; obtain ⟨fn, tmps, assign, body, hy, hR⟩ := HY.out pre ⟨k, p, i + 13 + (p.length : Int), .slice A1 p.length c1⟩ wr _ HJP.out ⟨Chg.of_belowS _ hbl, i, (hbl.block b3 hlt3).trans HK3.out⟩ (HS.out.st.own_row (i := 1) rfl) HLEN.out; dsimp only [encR] at hy; have HR := Lib.hid hR; clear hR hbl)
        | (refine il (by rfl) (i_lda (cs := [.int .i64 (k.toNat : Int), .slice A1 p.length c1]) HS.out 0 2 (by rfl) (by rfl) (by rfl) ag25 (by rfl) (by rfl) ?_)))
      have hbl := HS.out.st.below
      have hlt2 : b2 < wr.heap.size := blk_lt HK2.out
      have hvn := HKV.out.below hbl
      have hn2 := (hbl.block b2 hlt2).trans HK2.out
      have hn3 := (hbl.block b3 hlt3).trans HK3.out
      refine HR.out.mono ?_
      rintro e W3 (⟨rfl, hJ3, hk3⟩ | ⟨rfl, hJx3, hk3⟩)
      · have q2 := (hk3 b2 (.inl rfl)).trans hn2
        have q3 := (hk3 b3 (.inr (.inl rfl))).trans hn3
        have qv : HB W3 v xs := by
          obtain ⟨A, c, rfl, e0, e1, e2⟩ := hvn
          exact ⟨A, c, rfl, e0, e1, fun a ha i x hx => hk3.cell (e2 a ha i x hx) (.inr (.inr (hvm (fun e => by subst e; simp at hx) _ (by subst ha; simp [Value.ownBlock, blk_of_add]))))⟩
        have qc : W3.cell? ⟨b3, 0, none⟩ = some (.int .i64 i) := (blk_cell q3 0).trans rfl
        have HC := Lib.hid qc; have HFZ := Lib.hid (blk_free q3 0); have HV := Lib.hid qv; have HQ2 := Lib.hid q2; have HQ3 := Lib.hid q3; have HJ3 := Lib.hid hJ3
        clear q2 q3 qv qc hJ3 hk3 hvn hn2 hn3 hbl hy
        gi_wp2_with (first
          | (refine il (by rfl) (wpIn_of_run (by intro c h; cases h) (by rfl) (run_stc (by kernel_rfl) (by rfl) (by rfl) (by rfl) (by rfl) HC.out HFZ.out) ?_)))
        go_roundw
        case rel =>
          have hch : Chg [b3] W3 (W3.setCell ⟨b3, 0, none⟩ (.int .i64 (i + 13 + (p.length : Int)))) := (Chg.refl _ _).setCell (.inl (by simp)) _
          have h3 : (W3.setCell ⟨b3, 0, none⟩ (.int .i64 (i + 13 + (p.length : Int)))).heap[b3]? = some (.cells #[.int .i64 (i + 13 + (p.length : Int))] 3 (0, 0)) := by simpa using blk_set HQ3.out 0 (.int .i64 (i + 13 + (p.length : Int)))
          have hv4 : HB (W3.setCell ⟨b3, 0, none⟩ (.int .i64 (i + 13 + (p.length : Int)))) v xs := by
            obtain ⟨A, c, rfl, e0, e1, e2⟩ := HV.out
            refine ⟨A, c, rfl, e0, e1, fun a ha q x hx => hch.cell (e2 a ha q x hx) ?_⟩
            have := hvm (fun e => by subst e; simp at hx) a.block (by subst ha; rfl)
            simp [blk_of_add]; omega
          refine ⟨g, i + 13 + (p.length : Int), pre ++ [⟨k, p, i + 13 + (p.length : Int), .slice A1 p.length c1⟩], ?_, fun _ => ?_, hch.blk HQ2.out (by simpa using h23), h3, hv4, HJ.out _ W3 _ HJ3.out ⟨hch, _, h3⟩⟩
          · rw [HALL.out, HAL.out]; simp [RecI.strip]
          · have := HFL.out; push_cast at this ⊢; omega
        case measure =>
          have h3 : (W3.setCell ⟨b3, 0, none⟩ (.int .i64 (i + 13 + (p.length : Int)))).heap[b3]? = some (.cells #[.int .i64 (i + 13 + (p.length : Int))] 3 (0, 0)) := by simpa using blk_set HQ3.out 0 (.int .i64 (i + 13 + (p.length : Int)))
          have e1 : at3 b3 (W3.setCell ⟨b3, 0, none⟩ (.int .i64 (i + 13 + (p.length : Int)))) = i + 13 + (p.length : Int) := by unfold at3; rw [blk_cell h3 0]; rfl
          rw [e1, HAT.out]
          have := HI.out
          omega
      · clear hvn hn2 hn3 hbl hy hk3
        gi_wp2_with fail
        refine bodyPost_ret (results_none rfl _ _ _) rfl ?_
        refine ⟨⟨_, rfl⟩, .inr ⟨_, ?_, hJx3⟩⟩
        rw [HALL.out, HAL.out, List.map_append]
        exact ⟨allF xs g (i + 13 + (p.length : Int)), by simp [RecI.strip]⟩
end
section
open Go Go.RowKit Go.Proofs
attribute [local go_sem] Oper.semAt_some
attribute [local irreducible] Calls
set_option maxHeartbeats 1000000 in
set_option maxRecDepth 100000 in
theorem each40 (A : Option Addr) (n c : Nat) (i : Int) (w : World) :
    Calls Try.prog 40 #[.slice A n c, .int .i64 i] w fun e w' => ∃ b2 b3, e = .returned (.func (.func 67) #[] #[.pointer (some ⟨b2, 0, none⟩), .pointer (some ⟨b3, 0, none⟩)]) ∧ St w w' [Blk b3 [.int .i64 i] 3, Blk b2 [.slice A n c] 22] [] := by
  have HS := Lib.hid (St.start w)
  go_enter Try.func40, Try.ntmps40
  go_wp2_with (first
    | (refine atd 2 (by rfl) ?_; refine wl (by rfl) (s_bx (l := [.slice A n c]) HS.out (by rfl) (by rfl) ?_); intro b2 Wn hS; clear HS; have HS := Lib.hid hS; clear hS)
    | (refine wl (by rfl) (s_bx (l := [.int .i64 i]) HS.out (by rfl) (by rfl) ?_); intro b3 Wn hS; clear HS; have HS := Lib.hid hS; clear hS))
  go_ret
  exact ⟨b2, b3, rfl, HS.out⟩
end
end Go.Proofs.Ytlpklbpaknemaaa
