/- Contracts and words that the laws stand on (RecB). -/
import Derived.Test.YtakeggdpnfibpaaRecA
set_option linter.unusedVariables false
set_option linter.unusedSimpArgs false
namespace Go.Proofs.Ytakeggdpnfibpaa
section
open Go Go.RowKit Go.Proofs
section
variable {w : World}
theorem z25 : zeroIs Try.prog 48 (.agg #[.int .i64 0, .slice none 0 0]) := by show (Try.prog.info? 48).bind (·.zero) = _; kernel_rfl
theorem ag25 : aggr Try.prog 48 2 = true := by kernel_rfl
theorem size25 : (Try.prog.info? 48).map (·.size) = some 2 := by kernel_rfl
theorem load25 (g : Nat) (cs : Array Value) (t : TypeId) (fr : Nat × Nat) (hg : w.heap[g]? = some (.cells cs t fr)) (hz : cs.size = 2) : (loadVar 48 ⟨g, 0, none⟩).run Try.prog w = .ok (.agg cs) w :=
  run_loadVar_row w g t 48 cs fr _ hg Try.underlying48 rfl (by rw [hz]; exact size25)
theorem ret_rtt {fn : Func} {p u q : Tmp} (h : fn.results = #[.cell p 48, .tmp u, .tmp q]) (tmps : Array Value) (g : Nat) (cs : Array Value) (t : TypeId) (fr : Nat × Nat) (v x : Value) (hp : tmps.getD p undef = .pointer (some ⟨g, 0, none⟩)) (hv : tmps.getD u undef = v) (hx : tmps.getD q undef = x) (hg : w.heap[g]? = some (.cells cs t fr)) (hz : cs.size = 2) :
    (results fn tmps).run Try.prog w = .ok (.tuple #[.agg cs, v, x]) w := by
  have hp' : tmps[p]?.getD undef = .pointer (some ⟨g, 0, none⟩) := by simpa using hp
  have hv' : tmps[u]?.getD undef = v := by simpa using hv
  have hx' : tmps[q]?.getD undef = x := by simpa using hx
  simp [results, h, hp', hv', hx', asAddr, load25 g cs t fr hg hz]
end
theorem eyeOne (g : Nat) (u : Value) (b : UInt8) (r : List UInt8) (w : World) (h : IsEye w g u (b :: r)) :
    Calls Try.prog 45 #[.pointer (some ⟨g, 0, none⟩), .int .i64 1] w fun e w' => ∃ u', e = .returned (.tuple #[.int .u64 (b.toNat : Int), .int .i64 0]) ∧ EyeGo w w' g u u' r := by
  refine (efixed_ok g 1 u (b :: r) w h (by decide) (by simp; omega)).mono ?_
  rintro e w' ⟨u', rfl, hg⟩
  have e1 : leNum ((b :: r).take (Int.toNat 1)) = b.toNat := by simp [leNum]
  rw [e1]
  exact ⟨u', rfl, hg⟩
theorem eyeFour (g : Nat) (u : Value) (r : List UInt8) (n : Nat) (w : World) (h : IsEye w g u r) (h4 : 4 ≤ r.length) (hn : leNum (r.take 4) = n) :
    Calls Try.prog 45 #[.pointer (some ⟨g, 0, none⟩), .int .i64 4] w fun e w' => ∃ u', e = .returned (.tuple #[.int .u64 (n : Int), .int .i64 0]) ∧ EyeGo w w' g u u' (r.drop 4) := by
  refine (efixed_ok g 4 u r w h (by decide) (by omega)).mono ?_
  rintro e w' ⟨u', rfl, hg⟩
  have e1 : leNum (r.take (Int.toNat 4)) = n := hn
  rw [e1]
  exact ⟨u', rfl, hg⟩
theorem cut_run (A : Option Addr) (n c a k : Nat) (hk : a + k ≤ n) (hc : n ≤ c) (W : World) : (Instr.slice 28 (.slice A n c) (some (.int .i64 (a : Int))) (some (.int .i64 ((a : Int) + (k : Int)))) none).run Try.prog W = .ok (.slice (cutA A c a) k (c - a)) W := by
  have := run_cut_lh 28 5 Try.underlying28 size5 A n c a (a + k) (by omega) hk hc W
  rw [show a + k - a = k by omega] at this
  rw [show (a : Int) + (k : Int) = ((a + k : Nat) : Int) by push_cast; rfl]
  exact this
theorem cut_hb {W : World} {A : Option Addr} {n c : Nat} {xs : List UInt8} (h : HB W (.slice A n c) xs) (a k : Nat) (hk : a + k ≤ n) : HB W (.slice (cutA A c a) k (c - a)) ((xs.drop a).take k) := by
  have := h.cut (a := a) (b := a + k) (by omega) hk
  rwa [show a + k - a = k by omega] at this
theorem Row.sl {v : Value} {E : TypeId} {s n : Nat} {l : List Value} {W : World} (h : (Row v E s n l).ok W) : ∃ A c, v = .slice A n c := own_slice h
def decBad : Value := .tuple #[.agg #[.int .i64 0, .slice none 0 0], .int .i64 0, .int .i64 160]
attribute [local irreducible] Calls
set_option maxHeartbeats 1000000 in
set_option maxRecDepth 100000 in
theorem dec12_far (v : Value) (xs : List UInt8) (i : Int) (w : World) (h : HB w v xs) (hb : i < 0 ∨ (xs.length : Int) < i ∨ (xs.length : Int) - i < 13) :
    Calls Try.prog 33 #[v, .int .i64 i] w fun e w' => e = .returned decBad ∧ Below w.heap.size w w' := by
  have HS := Lib.hid (St.start w)
  obtain ⟨A, c, rfl, hlc⟩ := h.shape
  clear h
  rcases (by omega : i < 0 ∨ (¬ i < 0 ∧ (xs.length : Int) < i) ∨ (¬ i < 0 ∧ ¬ (xs.length : Int) < i ∧ (xs.length : Int) - i < 13)) with h | ⟨h, h'⟩ | ⟨h, h', h''⟩
  · go_enter Try.func33, Try.ntmps33
    go_wp2_with (first
      | (refine wl (by rfl) (s_al HS.out (by rfl) z25 (by rfl) ?_); intro b1 Wn hS; clear HS; have HS := Lib.hid hS; clear hS)
      | (refine wl (by rfl) (s_sta (cs := [.int .i64 0, .slice none 0 0]) HS.out 0 2 (by rfl) (by rfl) (by rfl) ag25 (by rfl) (by rfl) (by intro v hv; simp at hv; rcases hv with rfl | rfl <;> rfl) (by decide) ?_); intro Wn hS; clear HS; have HS := Lib.hid hS; clear hS))
    exact bodyPost_ret (ret_rtt (p := 4) (u := 5) (q := 6) rfl _ b1 _ 48 (0, 0) (.int .i64 0) (.int .i64 160) (by rfl) (by rfl) (by rfl) (HS.out.blk (i := 0) rfl) (by rfl)) rfl ⟨rfl, HS.out.below⟩
  · go_enter Try.func33, Try.ntmps33
    go_wp2_with (first
      | (refine wl (by rfl) (s_al HS.out (by rfl) z25 (by rfl) ?_); intro b1 Wn hS; clear HS; have HS := Lib.hid hS; clear hS)
      | (refine wl (by rfl) (s_sta (cs := [.int .i64 0, .slice none 0 0]) HS.out 0 2 (by rfl) (by rfl) (by rfl) ag25 (by rfl) (by rfl) (by intro v hv; simp at hv; rcases hv with rfl | rfl <;> rfl) (by decide) ?_); intro Wn hS; clear HS; have HS := Lib.hid hS; clear hS))
    exact bodyPost_ret (ret_rtt (p := 4) (u := 5) (q := 6) rfl _ b1 _ 48 (0, 0) (.int .i64 0) (.int .i64 160) (by rfl) (by rfl) (by rfl) (HS.out.blk (i := 0) rfl) (by rfl)) rfl ⟨rfl, HS.out.below⟩
  · go_enter Try.func33, Try.ntmps33
    go_wp2_with (first
      | (refine wl (by rfl) (s_al HS.out (by rfl) z25 (by rfl) ?_); intro b1 Wn hS; clear HS; have HS := Lib.hid hS; clear hS)
      | (refine wl (by rfl) (s_sta (cs := [.int .i64 0, .slice none 0 0]) HS.out 0 2 (by rfl) (by rfl) (by rfl) ag25 (by rfl) (by rfl) (by intro v hv; simp at hv; rcases hv with rfl | rfl <;> rfl) (by decide) ?_); intro Wn hS; clear HS; have HS := Lib.hid hS; clear hS))
    exact bodyPost_ret (ret_rtt (p := 4) (u := 5) (q := 6) rfl _ b1 _ 48 (0, 0) (.int .i64 0) (.int .i64 160) (by rfl) (by rfl) (by rfl) (HS.out.blk (i := 0) rfl) (by rfl)) rfl ⟨rfl, HS.out.below⟩
set_option maxHeartbeats 1000000 in
set_option maxRecDepth 100000 in
theorem dec12_head (v : Value) (xs : List UInt8) (a : Nat) (w : World) (h : HB w v xs) (ha : a + 13 ≤ xs.length) (hl : xs.length ≤ 1000000) (hb : bareR ((xs.drop a).take 9) = none) :
    Calls Try.prog 33 #[v, .int .i64 (a : Int)] w fun e w' => e = .returned decBad ∧ Below w.heap.size w w' := by
  obtain ⟨A, c, rfl, hlc⟩ := h.shape
  have HS := Lib.hid ((St.start w).addF (cut_hb h a 9 (by omega)).away0)
  clear h
  have HBN := Lib.hid hb; clear hb
  have k1 : ¬ (a : Int) < 0 := by omega
  have k2 : ¬ (xs.length : Int) < (a : Int) := by omega
  have k3 : ¬ (xs.length : Int) - (a : Int) < 13 := by omega
  have hs1 : ∀ W, (Instr.slice 28 (.slice A xs.length c) (some (.int .i64 (a : Int))) (some (.int .i64 ((a : Int) + 9))) none).run Try.prog W = .ok (.slice (cutA A c a) 9 (c - a)) W := cut_run A xs.length c a 9 (by omega) hlc
  go_enter Try.func33, Try.ntmps33
  go_wp2_with (first
    | (refine wl (by rfl) (s_al HS.out (by rfl) z25 (by rfl) ?_); intro b1 Wn hS; clear HS; have HS := Lib.hid hS; clear hS)
    | (refine wl (by rfl) (s_sta (cs := [.int .i64 0, .slice none 0 0]) HS.out 0 2 (by rfl) (by rfl) (by rfl) ag25 (by rfl) (by rfl) (by intro v hv; simp at hv; rcases hv with rfl | rfl <;> rfl) (by decide) ?_); intro Wn hS; clear HS; have HS := Lib.hid hS; clear hS)
    | (go_at_call 43; refine (bareB _ _ _ (HS.out.fact (i := 0) rfl) (by simp; omega) HBN.out).mono ?_; rintro e Wn ⟨rfl, hb⟩; have hS := HS.out.call hb; clear hb; clear HS; have HS := Lib.hid hS; clear hS))
  exact bodyPost_ret (ret_rtt (p := 4) (u := 5) (q := 6) rfl _ b1 _ 48 (0, 0) (.int .i64 0) (.int .i64 160) (by rfl) (by rfl) (by rfl) (HS.out.blk (i := 0) rfl) (by rfl)) rfl ⟨rfl, HS.out.below⟩
set_option maxHeartbeats 1000000 in
set_option maxRecDepth 100000 in
theorem dec12_long (v : Value) (xs : List UInt8) (a : Nat) (k : UInt8) (q : List UInt8) (n : Nat) (w : World) (h : HB w v xs) (ha : a + 13 ≤ xs.length) (hl : xs.length ≤ 1000000) (hb : bareR ((xs.drop a).take 9) = some (k :: q)) (hq : q.length = 4) (hn : leNum q = n) (hN : 200000 < n ∨ xs.length < a + n + 13) :
    Calls Try.prog 33 #[v, .int .i64 (a : Int)] w fun e w' => e = .returned decBad ∧ Below w.heap.size w w' := by
  obtain ⟨A, c, rfl, hlc⟩ := h.shape
  have HBN := Lib.hid hb; clear hb
  have k1 : ¬ (a : Int) < 0 := by omega
  have k2 : ¬ (xs.length : Int) < (a : Int) := by omega
  have k3 : ¬ (xs.length : Int) - (a : Int) < 13 := by omega
  have hn32 : n < 4294967296 := by rw [← hn]; exact leNum_32 q hq
  have w64 : IntKind.i64.wrap (n : Int) = (n : Int) := by rw [IntKind.wrap_i64]; omega
  have w8 : IntKind.i64.wrap (k.toNat : Int) = (k.toNat : Int) := by have := k.toNat_lt; rw [IntKind.wrap_i64]; omega
  have h4 : leNum (q.take 4) = n := by rw [List.take_of_length_le (by omega)]; exact hn
  have HQ := Lib.hid hq; have H4 := Lib.hid h4; clear hq hn h4
  have hs1 : ∀ W, (Instr.slice 28 (.slice A xs.length c) (some (.int .i64 (a : Int))) (some (.int .i64 ((a : Int) + 9))) none).run Try.prog W = .ok (.slice (cutA A c a) 9 (c - a)) W := cut_run A xs.length c a 9 (by omega) hlc
  have HS := Lib.hid ((St.start w).addF (cut_hb h a 9 (by omega)).away0)
  clear h
  rcases (by omega : (200000 : Int) < (n : Int) ∨ (¬ (200000 : Int) < (n : Int) ∧ (xs.length : Int) - ((a : Int) + 9) - 4 < (n : Int))) with h | ⟨h, h'⟩
  · go_enter Try.func33, Try.ntmps33
    go_wp2_with (first
      | (refine wl (by rfl) (s_al HS.out (by rfl) z25 (by rfl) ?_); intro b1 Wn hS; clear HS; have HS := Lib.hid hS; clear hS)
      | (refine wl (by rfl) (s_sta (cs := [.int .i64 0, .slice none 0 0]) HS.out 2 2 (by rfl) (by rfl) (by rfl) ag25 (by rfl) (by rfl) (by intro v hv; simp at hv; rcases hv with rfl | rfl <;> rfl) (by decide) ?_); intro Wn hS; clear HS; have HS := Lib.hid hS; clear hS)
      | (go_at_call 43; refine (bareN _ _ (k :: q) _ (HS.out.fact (i := 0) rfl) (by simp; omega) HBN.out).mono ?_; rintro e Wn ⟨v1, rfl, hb⟩; have hS := HS.out.take hb; clear hb; clear HS; have HS := Lib.hid hS; clear hS)
      | (go_at_call 44; refine (look_new _ (k :: q) _ (Row.hb (HS.out.res (i := 0) rfl)) (by simp [HQ.out])).mono ?_; rintro e Wn ⟨g, u, rfl, hb⟩; have hS := HS.out.take hb; clear hb; clear HS; have HS := Lib.hid hS; clear hS)
      | (go_at_call 45; refine (eyeOne g u k q _ (HS.out.eyeAt (i := 0) rfl)).mono ?_; rintro e Wn ⟨u1, rfl, hb⟩; have hS := HS.out.eye (i := 0) rfl hb; clear hb; clear HS; have HS := Lib.hid hS; clear hS)
      | (go_at_call 45; refine (eyeFour g u1 q n _ (HS.out.eyeAt (i := 0) rfl) (Nat.le_of_eq HQ.out.symm) H4.out).mono ?_; rintro e Wn ⟨u2, rfl, hb⟩; have hS := HS.out.eye (i := 0) rfl hb; clear hb; clear HS; have HS := Lib.hid hS; clear hS))
    exact bodyPost_ret (ret_rtt (p := 4) (u := 5) (q := 6) rfl _ b1 _ 48 (0, 0) (.int .i64 0) (.int .i64 160) (by rfl) (by rfl) (by rfl) (HS.out.blk (i := 2) rfl) (by rfl)) rfl ⟨rfl, HS.out.below⟩
  · go_enter Try.func33, Try.ntmps33
    go_wp2_with (first
      | (refine wl (by rfl) (s_al HS.out (by rfl) z25 (by rfl) ?_); intro b1 Wn hS; clear HS; have HS := Lib.hid hS; clear hS)
      | (refine wl (by rfl) (s_sta (cs := [.int .i64 0, .slice none 0 0]) HS.out 2 2 (by rfl) (by rfl) (by rfl) ag25 (by rfl) (by rfl) (by intro v hv; simp at hv; rcases hv with rfl | rfl <;> rfl) (by decide) ?_); intro Wn hS; clear HS; have HS := Lib.hid hS; clear hS)
      | (go_at_call 43; refine (bareN _ _ (k :: q) _ (HS.out.fact (i := 0) rfl) (by simp; omega) HBN.out).mono ?_; rintro e Wn ⟨v1, rfl, hb⟩; have hS := HS.out.take hb; clear hb; clear HS; have HS := Lib.hid hS; clear hS)
      | (go_at_call 44; refine (look_new _ (k :: q) _ (Row.hb (HS.out.res (i := 0) rfl)) (by simp [HQ.out])).mono ?_; rintro e Wn ⟨g, u, rfl, hb⟩; have hS := HS.out.take hb; clear hb; clear HS; have HS := Lib.hid hS; clear hS)
      | (go_at_call 45; refine (eyeOne g u k q _ (HS.out.eyeAt (i := 0) rfl)).mono ?_; rintro e Wn ⟨u1, rfl, hb⟩; have hS := HS.out.eye (i := 0) rfl hb; clear hb; clear HS; have HS := Lib.hid hS; clear hS)
      | (go_at_call 45; refine (eyeFour g u1 q n _ (HS.out.eyeAt (i := 0) rfl) (Nat.le_of_eq HQ.out.symm) H4.out).mono ?_; rintro e Wn ⟨u2, rfl, hb⟩; have hS := HS.out.eye (i := 0) rfl hb; clear hb; clear HS; have HS := Lib.hid hS; clear hS))
    exact bodyPost_ret (ret_rtt (p := 4) (u := 5) (q := 6) rfl _ b1 _ 48 (0, 0) (.int .i64 0) (.int .i64 160) (by rfl) (by rfl) (by rfl) (HS.out.blk (i := 2) rfl) (by rfl)) rfl ⟨rfl, HS.out.below⟩
set_option maxHeartbeats 1000000 in
set_option maxRecDepth 100000 in
theorem dec12_body (v : Value) (xs : List UInt8) (a : Nat) (k : UInt8) (q : List UInt8) (n : Nat) (w : World) (h : HB w v xs) (ha : a + 13 ≤ xs.length) (hl : xs.length ≤ 1000000) (hb : bareR ((xs.drop a).take 9) = some (k :: q)) (hq : q.length = 4) (hn : leNum q = n) (hN : n ≤ 200000 ∧ a + n + 13 ≤ xs.length) (hb2 : bareR ((xs.drop (a + 9)).take (n + 4)) = none) :
    Calls Try.prog 33 #[v, .int .i64 (a : Int)] w fun e w' => e = .returned decBad ∧ Below w.heap.size w w' := by
  obtain ⟨A, c, rfl, hlc⟩ := h.shape
  have HBN := Lib.hid hb; clear hb
  have k1 : ¬ (a : Int) < 0 := by omega
  have k2 : ¬ (xs.length : Int) < (a : Int) := by omega
  have k3 : ¬ (xs.length : Int) - (a : Int) < 13 := by omega
  have hn32 : n < 4294967296 := by rw [← hn]; exact leNum_32 q hq
  have w64 : IntKind.i64.wrap (n : Int) = (n : Int) := by rw [IntKind.wrap_i64]; omega
  have w8 : IntKind.i64.wrap (k.toNat : Int) = (k.toNat : Int) := by have := k.toNat_lt; rw [IntKind.wrap_i64]; omega
  have h4 : leNum (q.take 4) = n := by rw [List.take_of_length_le (by omega)]; exact hn
  have HQ := Lib.hid hq; have H4 := Lib.hid h4; clear hq hn h4
  have hs1 : ∀ W, (Instr.slice 28 (.slice A xs.length c) (some (.int .i64 (a : Int))) (some (.int .i64 ((a : Int) + 9))) none).run Try.prog W = .ok (.slice (cutA A c a) 9 (c - a)) W := cut_run A xs.length c a 9 (by omega) hlc
  have HS := Lib.hid (((St.start w).addF (cut_hb h (a + 9) (n + 4) (by omega)).away0).addF (cut_hb h a 9 (by omega)).away0)
  clear h
  have j1 : ¬ (200000 : Int) < (n : Int) := by omega
  have j2 : ¬ (xs.length : Int) - ((a : Int) + 9) - 4 < (n : Int) := by omega
  have hs2 : ∀ W, (Instr.slice 28 (.slice A xs.length c) (some (.int .i64 ((a : Int) + 9))) (some (.int .i64 ((a : Int) + 9 + (n : Int) + 4))) none).run Try.prog W = .ok (.slice (cutA A c (a + 9)) (n + 4) (c - (a + 9))) W := fun W => by
    have := cut_run A xs.length c (a + 9) (n + 4) (by omega) hlc W
    rwa [show ((a + 9 : Nat) : Int) = (a : Int) + 9 by push_cast; rfl, show (a : Int) + 9 + ((n + 4 : Nat) : Int) = (a : Int) + 9 + (n : Int) + 4 by push_cast; omega] at this
  have HB2 := Lib.hid hb2; clear hb2
  go_enter Try.func33, Try.ntmps33
  go_wp2_with (first
    | (refine wl (by rfl) (s_al HS.out (by rfl) z25 (by rfl) ?_); intro b1 Wn hS; clear HS; have HS := Lib.hid hS; clear hS)
    | (refine wl (by rfl) (s_sta (cs := [.int .i64 0, .slice none 0 0]) HS.out 2 2 (by rfl) (by rfl) (by rfl) ag25 (by rfl) (by rfl) (by intro v hv; simp at hv; rcases hv with rfl | rfl <;> rfl) (by decide) ?_); intro Wn hS; clear HS; have HS := Lib.hid hS; clear hS)
    | (go_at_call 43; refine (bareN _ _ (k :: q) _ (HS.out.fact (i := 0) rfl) (by simp; omega) HBN.out).mono ?_; rintro e Wn ⟨v1, rfl, hb⟩; have hS := HS.out.take hb; clear hb; clear HS; have HS := Lib.hid hS; clear hS)
    | (go_at_call 44; refine (look_new _ (k :: q) _ (Row.hb (HS.out.res (i := 0) rfl)) (by simp [HQ.out])).mono ?_; rintro e Wn ⟨g, u, rfl, hb⟩; have hS := HS.out.take hb; clear hb; clear HS; have HS := Lib.hid hS; clear hS)
    | (go_at_call 45; refine (eyeOne g u k q _ (HS.out.eyeAt (i := 0) rfl)).mono ?_; rintro e Wn ⟨u1, rfl, hb⟩; have hS := HS.out.eye (i := 0) rfl hb; clear hb; clear HS; have HS := Lib.hid hS; clear hS)
    | (go_at_call 45; refine (eyeFour g u1 q n _ (HS.out.eyeAt (i := 0) rfl) (Nat.le_of_eq HQ.out.symm) H4.out).mono ?_; rintro e Wn ⟨u2, rfl, hb⟩; have hS := HS.out.eye (i := 0) rfl hb; clear hb; clear HS; have HS := Lib.hid hS; clear hS)
    | (go_at_call 43; refine (bareB _ _ _ (HS.out.fact (i := 1) rfl) (by simp; omega) HB2.out).mono ?_; rintro e Wn ⟨rfl, hb⟩; have hS := HS.out.call hb; clear hb; clear HS; have HS := Lib.hid hS; clear hS))
  exact bodyPost_ret (ret_rtt (p := 4) (u := 5) (q := 6) rfl _ b1 _ 48 (0, 0) (.int .i64 0) (.int .i64 160) (by rfl) (by rfl) (by rfl) (HS.out.blk (i := 2) rfl) (by rfl)) rfl ⟨rfl, HS.out.below⟩
set_option maxHeartbeats 1000000 in
set_option maxRecDepth 100000 in
theorem dec12_ok (v : Value) (xs : List UInt8) (a : Nat) (k : UInt8) (q : List UInt8) (n : Nat) (w : World) (h : HB w v xs) (ha : a + 13 ≤ xs.length) (hl : xs.length ≤ 1000000) (hb : bareR ((xs.drop a).take 9) = some (k :: q)) (hq : q.length = 4) (hn : leNum q = n) (p : List UInt8) (hN : n ≤ 200000 ∧ a + n + 13 ≤ xs.length) (hb2 : bareR ((xs.drop (a + 9)).take (n + 4)) = some p) :
    Calls Try.prog 33 #[v, .int .i64 (a : Int)] w fun e w' => ∃ v', e = .returned (.tuple #[.agg #[.int .i64 (k.toNat : Int), v'], .int .i64 ((a : Int) + 9 + (n : Int) + 4), .int .i64 0]) ∧ New w w' (Row v' 5 1 p.length (bs p)) := by
  obtain ⟨A, c, rfl, hlc⟩ := h.shape
  have HBN := Lib.hid hb; clear hb
  have k1 : ¬ (a : Int) < 0 := by omega
  have k2 : ¬ (xs.length : Int) < (a : Int) := by omega
  have k3 : ¬ (xs.length : Int) - (a : Int) < 13 := by omega
  have hn32 : n < 4294967296 := by rw [← hn]; exact leNum_32 q hq
  have w64 : IntKind.i64.wrap (n : Int) = (n : Int) := by rw [IntKind.wrap_i64]; omega
  have w8 : IntKind.i64.wrap (k.toNat : Int) = (k.toNat : Int) := by have := k.toNat_lt; rw [IntKind.wrap_i64]; omega
  have h4 : leNum (q.take 4) = n := by rw [List.take_of_length_le (by omega)]; exact hn
  have HQ := Lib.hid hq; have H4 := Lib.hid h4; clear hq hn h4
  have hs1 : ∀ W, (Instr.slice 28 (.slice A xs.length c) (some (.int .i64 (a : Int))) (some (.int .i64 ((a : Int) + 9))) none).run Try.prog W = .ok (.slice (cutA A c a) 9 (c - a)) W := cut_run A xs.length c a 9 (by omega) hlc
  have HS := Lib.hid (((St.start w).addF (cut_hb h (a + 9) (n + 4) (by omega)).away0).addF (cut_hb h a 9 (by omega)).away0)
  clear h
  have j1 : ¬ (200000 : Int) < (n : Int) := by omega
  have j2 : ¬ (xs.length : Int) - ((a : Int) + 9) - 4 < (n : Int) := by omega
  have hs2 : ∀ W, (Instr.slice 28 (.slice A xs.length c) (some (.int .i64 ((a : Int) + 9))) (some (.int .i64 ((a : Int) + 9 + (n : Int) + 4))) none).run Try.prog W = .ok (.slice (cutA A c (a + 9)) (n + 4) (c - (a + 9))) W := fun W => by
    have := cut_run A xs.length c (a + 9) (n + 4) (by omega) hlc W
    rwa [show ((a + 9 : Nat) : Int) = (a : Int) + 9 by push_cast; rfl, show (a : Int) + 9 + ((n + 4 : Nat) : Int) = (a : Int) + 9 + (n : Int) + 4 by push_cast; omega] at this
  have HB2 := Lib.hid hb2; clear hb2
  go_enter Try.func33, Try.ntmps33
  go_wp2_with (first
    | (refine wl (by rfl) (s_al HS.out (by rfl) z25 (by rfl) ?_); intro b1 Wn hS; clear HS; have HS := Lib.hid hS; clear hS)
    | (go_at_call 43; refine (bareN _ _ (k :: q) _ (HS.out.fact (i := 0) rfl) (by simp; omega) HBN.out).mono ?_; rintro e Wn ⟨v1, rfl, hb⟩; have hS := HS.out.take hb; clear hb; clear HS; have HS := Lib.hid hS; clear hS)
    | (go_at_call 44; refine (look_new _ (k :: q) _ (Row.hb (HS.out.res (i := 0) rfl)) (by simp [HQ.out])).mono ?_; rintro e Wn ⟨g, u, rfl, hb⟩; have hS := HS.out.take hb; clear hb; clear HS; have HS := Lib.hid hS; clear hS)
    | (go_at_call 45; refine (eyeOne g u k q _ (HS.out.eyeAt (i := 0) rfl)).mono ?_; rintro e Wn ⟨u1, rfl, hb⟩; have hS := HS.out.eye (i := 0) rfl hb; clear hb; clear HS; have HS := Lib.hid hS; clear hS)
    | (go_at_call 45; refine (eyeFour g u1 q n _ (HS.out.eyeAt (i := 0) rfl) (Nat.le_of_eq HQ.out.symm) H4.out).mono ?_; rintro e Wn ⟨u2, rfl, hb⟩; have hS := HS.out.eye (i := 0) rfl hb; clear hb; clear HS; have HS := Lib.hid hS; clear hS)
    | (go_at_call 43; refine (bareN _ _ p _ (HS.out.fact (i := 1) rfl) (by simp; omega) HB2.out).mono ?_; rintro e Wn ⟨v2, rfl, hb⟩; have hS := HS.out.take hb; clear hb; obtain ⟨A2, c2, rfl⟩ := Row.sl (hS.res (i := 0) rfl); clear HS; have HS := Lib.hid hS; clear hS)
    | (refine wl (by rfl) (s_sta (cs := [.int .i64 (k.toNat : Int), .slice A2 p.length c2]) HS.out 3 2 (by rfl) (by rfl) (by rfl) ag25 (by rfl) (by rfl) (by intro v hv; simp at hv; rcases hv with rfl | rfl <;> rfl) (by decide) ?_); intro Wn hS; clear HS; have HS := Lib.hid hS; clear hS))
  exact bodyPost_ret (ret_rtt (p := 4) (u := 5) (q := 6) rfl _ b1 _ 48 (0, 0) (.int .i64 ((a : Int) + 9 + (n : Int) + 4)) (.int .i64 0) (by rfl) (by rfl) (by rfl) (HS.out.blk (i := 3) rfl) (by rfl)) rfl ⟨_, rfl, HS.out.give 0 rfl⟩
end
end Go.Proofs.Ytakeggdpnfibpaa
