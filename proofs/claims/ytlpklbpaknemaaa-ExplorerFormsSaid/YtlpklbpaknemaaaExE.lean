/- Contracts and words that the laws stand on (ExE). -/
import Derived.Test.YtlpklbpaknemaaaLawA
import Derived.Test.YtlpklbpaknemaaaExA
import Derived.Test.YtlpklbpaknemaaaExB
set_option linter.unusedVariables false
set_option linter.unusedSimpArgs false
namespace Go.Proofs.Ytlpklbpaknemaaa
section
open Go.RowKit Go.Proofs
theorem fixedB_of {k n : Nat} (hk : k = 1 ∨ k = 2 ∨ k = 4 ∨ k = 8) (h : n < 256 ^ k) : fixedB (k : Int) n = le k n := by
  have hE : fixedE (k : Int) n = 0 := by
    have : wideB (k : Int) = true := by rcases hk with rfl | rfl | rfl | rfl <;> rfl
    have h2 : goesB n (k : Int).toNat = true := by simpa [goesB] using h
    rw [fixedE, if_neg (by rw [this]; decide), if_neg (by rw [h2]; decide)]
  rw [fixedB, if_pos hE, Int.toNat_natCast]
attribute [local irreducible] Calls
set_option maxHeartbeats 1000000 in
set_option maxRecDepth 100000 in
theorem rsize_any (n : Nat) (w : World) (hn : n < 18446744073709551616) :
    Calls Try.prog 83 #[.int .u64 (n : Int)] w fun e w' => ∃ v', e = .returned v' ∧ w'.ownsRow w.heap.size 5 1 v' (csize n).length (bs (csize n)) ∧ Below w.heap.size w w' := by
  have HN := Lib.hid hn
  by_cases h1 : n < 253
  · have hc : csize n = [UInt8.ofNat n] := by rw [csize, if_pos h1]
    rw [hc]
    have hi : (n : Int) < 253 := by omega
    have hm : (n : Int) % 256 = n := by omega
    have ht : ((UInt8.ofNat n).toNat : Int) = n := by rw [UInt8.toNat_ofNat_of_lt' (show n < 256 by omega)]
    have HT := Lib.hid ht
    clear hn hc ht
    go_enter Try.func83, Try.ntmps83
    go_wp2_with fail
    go_ret
    refine ⟨_, rfl, ?_, (Below.refl _ _).alloc (Nat.le_refl _) _⟩
    have := World.ownsRow_lit (base := w.heap.size) (size := 1) (e := 5) w #[.int .u8 (n : Int)] 1 (Nat.le_refl _) (by decide) rfl
    show World.ownsRow _ _ _ _ _ 1 [.int .u8 ((UInt8.ofNat n).toNat : Int)]
    rw [HT.out]; exact this
  · have hi1 : ¬ (n : Int) < 253 := by omega
    by_cases h2 : n < 65536
    · have hi2 : ¬ (65535 : Int) < n := by omega
      have hi3 : ¬ (4294967295 : Int) < n := by omega
      have HBB := Lib.hid ((show fixedB 2 n = le 2 n from fixedB_of (k := 2) (n := n) (.inr (.inl rfl)) (by simpa using h2))); have HCS := Lib.hid ((show csize n = [UInt8.ofNat 253] ++ le 2 n by rw [csize, if_neg h1, if_pos h2]; rfl))
      clear hn
      go_enter Try.func83, Try.ntmps83
      go_wp2_with fail
      refine (rfixed_any 2 n w HN.out).mono ?_
      rw [HBB.out, le_length]
      rintro e w1 ⟨v1, rfl, hown, hb⟩
      have hbb : HB w1 v1 (le 2 n) := HB.of_own (base := w.heap.size) (e := 5) (by rw [le_length]; exact hown)
      obtain ⟨A, c, rfl⟩ := own_slice hown
      have hlit : (w1.alloc (.cells #[.int .u8 253] 5)).ownsRow w.heap.size 5 1 (.slice (some ⟨w1.heap.size, 0, none⟩) 1 1) [UInt8.ofNat 253].length (bs [UInt8.ofNat 253]) := World.ownsRow_lit w1 #[.int .u8 253] 1 hb.size (by decide) rfl
      have HL := Lib.hid hlit
      have HB2 := Lib.hid (hbb.below ((Below.refl _ _).alloc (Nat.le_refl _) (.cells #[.int .u8 253] 5)))
      have HX := Lib.hid (hb.alloc hb.size (.cells #[.int .u8 253] 5))
      clear hbb hlit hb hown
      go_wp2_with (at_builtin; go_loud (refine wpl_pushes _ rfl (.tmp 23) (.tmp 24) 22 rfl w.heap.size 5 Try.underlying22 u8_info (.slice (some ⟨w1.heap.size, 0, none⟩) 1 1) [UInt8.ofNat 253] (le 2 n) _ rfl rfl ?c1 ?c2 ?c3 ?c4 ?_))
      case c1 => exact HL.out
      case c2 => exact HB2.out
      case c3 => rw [le_length]; decide
      case c4 => exact HX.out.size
      intro v' w' hown hg hnx
      have hbl : Below w.heap.size w w' := HX.out.grown hg HX.out.size (fun k hk => (HL.out.lt k hk).1)
      have HO3 := Lib.hid hown; have HB3 := Lib.hid hbl
      clear hown hbl hg hnx
      go_wp2_with fail
      go_ret
      refine ⟨_, rfl, ?_, HB3.out⟩
      rw [HCS.out]; exact HO3.out
    · have hi2 : (65535 : Int) < n := by omega
      by_cases h3 : n < 4294967296
      · have hi3 : ¬ (4294967295 : Int) < n := by omega
        have HBB := Lib.hid ((show fixedB 4 n = le 4 n from fixedB_of (k := 4) (n := n) (.inr (.inr (.inl rfl))) (by simpa using h3))); have HCS := Lib.hid ((show csize n = [UInt8.ofNat 254] ++ le 4 n by rw [csize, if_neg h1, if_neg h2, if_pos h3]; rfl))
        clear hn
        go_enter Try.func83, Try.ntmps83
        go_wp2_with fail
        refine (rfixed_any 4 n w HN.out).mono ?_
        rw [HBB.out, le_length]
        rintro e w1 ⟨v1, rfl, hown, hb⟩
        have hbb : HB w1 v1 (le 4 n) := HB.of_own (base := w.heap.size) (e := 5) (by rw [le_length]; exact hown)
        obtain ⟨A, c, rfl⟩ := own_slice hown
        have hlit : (w1.alloc (.cells #[.int .u8 254] 5)).ownsRow w.heap.size 5 1 (.slice (some ⟨w1.heap.size, 0, none⟩) 1 1) [UInt8.ofNat 254].length (bs [UInt8.ofNat 254]) := World.ownsRow_lit w1 #[.int .u8 254] 1 hb.size (by decide) rfl
        have HL := Lib.hid hlit
        have HB2 := Lib.hid (hbb.below ((Below.refl _ _).alloc (Nat.le_refl _) (.cells #[.int .u8 254] 5)))
        have HX := Lib.hid (hb.alloc hb.size (.cells #[.int .u8 254] 5))
        clear hbb hlit hb hown
        go_wp2_with (at_builtin; go_loud (refine wpl_pushes _ rfl (.tmp 23) (.tmp 24) 22 rfl w.heap.size 5 Try.underlying22 u8_info (.slice (some ⟨w1.heap.size, 0, none⟩) 1 1) [UInt8.ofNat 254] (le 4 n) _ rfl rfl ?c1 ?c2 ?c3 ?c4 ?_))
        case c1 => exact HL.out
        case c2 => exact HB2.out
        case c3 => rw [le_length]; decide
        case c4 => exact HX.out.size
        intro v' w' hown hg hnx
        have hbl : Below w.heap.size w w' := HX.out.grown hg HX.out.size (fun k hk => (HL.out.lt k hk).1)
        have HO3 := Lib.hid hown; have HB3 := Lib.hid hbl
        clear hown hbl hg hnx
        go_wp2_with fail
        go_ret
        refine ⟨_, rfl, ?_, HB3.out⟩
        rw [HCS.out]; exact HO3.out
      · have hi3 : (4294967295 : Int) < n := by omega
        have HBB := Lib.hid ((show fixedB 8 n = le 8 n from fixedB_of (k := 8) (n := n) (.inr (.inr (.inr rfl))) (by simpa using hn))); have HCS := Lib.hid ((show csize n = [UInt8.ofNat 255] ++ le 8 n by rw [csize, if_neg h1, if_neg h2, if_neg h3]; rfl))
        clear hn
        go_enter Try.func83, Try.ntmps83
        go_wp2_with fail
        refine (rfixed_any 8 n w HN.out).mono ?_
        rw [HBB.out, le_length]
        rintro e w1 ⟨v1, rfl, hown, hb⟩
        have hbb : HB w1 v1 (le 8 n) := HB.of_own (base := w.heap.size) (e := 5) (by rw [le_length]; exact hown)
        obtain ⟨A, c, rfl⟩ := own_slice hown
        have hlit : (w1.alloc (.cells #[.int .u8 255] 5)).ownsRow w.heap.size 5 1 (.slice (some ⟨w1.heap.size, 0, none⟩) 1 1) [UInt8.ofNat 255].length (bs [UInt8.ofNat 255]) := World.ownsRow_lit w1 #[.int .u8 255] 1 hb.size (by decide) rfl
        have HL := Lib.hid hlit
        have HB2 := Lib.hid (hbb.below ((Below.refl _ _).alloc (Nat.le_refl _) (.cells #[.int .u8 255] 5)))
        have HX := Lib.hid (hb.alloc hb.size (.cells #[.int .u8 255] 5))
        clear hbb hlit hb hown
        go_wp2_with (at_builtin; go_loud (refine wpl_pushes _ rfl (.tmp 23) (.tmp 24) 22 rfl w.heap.size 5 Try.underlying22 u8_info (.slice (some ⟨w1.heap.size, 0, none⟩) 1 1) [UInt8.ofNat 255] (le 8 n) _ rfl rfl ?c1 ?c2 ?c3 ?c4 ?_))
        case c1 => exact HL.out
        case c2 => exact HB2.out
        case c3 => rw [le_length]; decide
        case c4 => exact HX.out.size
        intro v' w' hown hg hnx
        have hbl : Below w.heap.size w w' := HX.out.grown hg HX.out.size (fun k hk => (HL.out.lt k hk).1)
        have HO3 := Lib.hid hown; have HB3 := Lib.hid hbl
        clear hown hbl hg hnx
        go_wp2_with fail
        go_ret
        refine ⟨_, rfl, ?_, HB3.out⟩
        rw [HCS.out]; exact HO3.out
set_option maxHeartbeats 1000000 in
set_option maxRecDepth 100000 in
theorem rbytes_any (b : Value) (xs : List UInt8) (w : World) (hb : HB w b xs) (hl : xs.length ≤ 1000000) :
    Calls Try.prog 73 #[b] w fun e w' => ∃ v', e = .returned v' ∧ w'.ownsRow w.heap.size 5 1 v' (csize xs.length ++ xs).length (bs (csize xs.length ++ xs)) ∧ Below w.heap.size w w' := by
  have Hb := Lib.hid hb
  obtain ⟨A, c, rfl, hlc⟩ := hb.shape
  clear hb
  have w64 : IntKind.u64.wrap (xs.length : Int) = xs.length := by rw [IntKind.wrap_u64]; omega
  go_enter Try.func73, Try.ntmps73
  go_wp2_with fail
  refine (rsize_any xs.length w (by omega)).mono ?_
  rintro e w1 ⟨v1, rfl, hown, hb1⟩
  have HO1 := Lib.hid hown; have HX := Lib.hid hb1; have Hb1 := Lib.hid (Hb.out.below hb1)
  obtain ⟨A1, c1, rfl⟩ := own_slice hown
  have hq9 : (csize xs.length).length ≤ 9 := by rw [csize_length]; unfold compact; repeat' split
                                                all_goals simp
  have HQ := Lib.hid hq9
  clear hown hb1 hq9
  go_wp2_with (at_builtin; go_loud (refine wpl_pushes _ rfl (.tmp 6) (.tmp 7) 22 rfl w.heap.size 5 Try.underlying22 u8_info (.slice A1 (csize xs.length).length c1) (csize xs.length) xs _ rfl rfl ?c1 ?c2 ?c3 ?c4 ?_))
  case c1 => exact HO1.out
  case c2 => exact Hb1.out
  case c3 => have := HQ.out; omega
  case c4 => exact HX.out.size
  intro v' w' hown hg hnx
  have hbl : Below w.heap.size w w' := HX.out.grown hg HX.out.size (fun k hk => (HO1.out.lt k hk).1)
  have HO3 := Lib.hid hown; have HB3 := Lib.hid hbl
  clear hown hbl hg hnx
  go_wp2_with fail
  go_ret
  refine ⟨_, rfl, ?_, HB3.out⟩
  rw [List.length_append]; exact HO3.out
end
section
open Go Go.RowKit Go.Proofs
attribute [local irreducible] Calls
theorem num72w (n : Nat) (w : World) (hn : n < 4294967296) :
    Calls Try.prog 72 #[.int .i64 4, .int .u64 (IntKind.u64.wrap (n : Int))] w fun e w' => ∃ v', e = .returned v' ∧ New w w' (Row v' 5 1 (le 4 n).length (bs (le 4 n))) := by
  rw [show IntKind.u64.wrap (n : Int) = (n : Int) by rw [IntKind.wrap_u64]; omega]
  exact num72 n w hn
theorem rbytes73 (b : Value) (xs : List UInt8) (w : World) (hb : HB w b xs) (hl : xs.length ≤ 1000000) :
    Calls Try.prog 73 #[b] w fun e w' => ∃ v' ys, ys = csize xs.length ++ xs ∧ ys.length ≤ 2000000 ∧ e = .returned v' ∧ New w w' (Row v' 5 1 ys.length (bs ys)) := by
  refine (rbytes_any b xs w hb hl).mono ?_
  rintro e w' ⟨v', rfl, ho, hb⟩
  have hco : compact xs.length ≤ 9 := by unfold compact; repeat' split
                                         all_goals simp
  exact ⟨v', _, rfl, by rw [List.length_append, csize_length]; omega, rfl, New.row ho hb⟩
set_option maxHeartbeats 1000000 in
set_option maxRecDepth 100000 in
theorem form50a (r : Req) (As Ab : Option Addr) (cs' cb' : Nat) (w : World) (hr : r.ok) (hs : HB w (.slice As r.sb.length cs') r.sb) (hb : HB w (.slice Ab r.bb.length cb') r.bb) (hk : r.k = 1) (hl1 : r.sb.length ≤ 1000000) (hl2 : r.bb.length ≤ 1000000) :
    Calls Try.prog 50 #[.agg (rcs r (.slice As r.sb.length cs') (.slice Ab r.bb.length cb')).toArray] w fun e w' => ∃ v', e = .returned (.tuple #[v', .bool true]) ∧ New w w' (Row v' 5 1 (encQ r).length (bs (encQ r))) := by
  have HS := Lib.hid (((St.start w).addF hb.away0).addF hs.away0)
  have HR := Lib.hid hr; have HTX := Lib.hid hr.tx; have HHA := Lib.hid hr.ha; have HLS := Lib.hid hl1
  have hn1 := hr.n; have hn2 := hr.h; have hn3 := hr.m
  have hco : compact r.sb.length ≤ 9 := by unfold compact; repeat' split
                                           all_goals simp
  have HCO := Lib.hid hco
  have HK0 := Lib.hid (show ∀ s b, (rcs r s b)[0]? = some (.int .i64 1) from fun s b => by rw [rcs_0, hk])
  have hq : [1] ++ r.bb = encQ r := by
    rw [encQ_cons (kb := 1) hk (f := 32) (by rw [hk]; rfl) (l := r.bb) (by simp [encF])]
    try simp
  have HQ := Lib.hid hq
  clear hb hs hr hk hq
  go_enter Try.func50, Try.ntmps50
  go_wp2_with (first
    | (refine atd 1 (by rfl) ?_; refine wl (by rfl) (s_bx (l := rcs r (.slice As r.sb.length cs') (.slice Ab r.bb.length cb')) HS.out (by rfl) (by rfl) ?_); intro b1 Wn hS; clear HS; have HS := Lib.hid hS; clear hS)
    | (refine atd 6 (by rfl) ?_; refine wl (by rfl) (s_ld (v := .int .i64 1) HS.out 0 (by rfl) (by rfl) (by rfl) (by kernel_rfl) (by exact HK0.out (.slice As r.sb.length cs') (.slice Ab r.bb.length cb')) ?_))
    | (refine atd 10 (by rfl) ?_; refine wl (by rfl) (s_ld (v := .int .i64 1) HS.out 0 (by rfl) (by rfl) (by rfl) (by kernel_rfl) (by exact HK0.out (.slice As r.sb.length cs') (.slice Ab r.bb.length cb')) ?_))
    | (refine atd 14 (by rfl) ?_; refine wl (by rfl) (s_ld (v := .int .i64 1) HS.out 0 (by rfl) (by rfl) (by rfl) (by kernel_rfl) (by exact HK0.out (.slice As r.sb.length cs') (.slice Ab r.bb.length cb')) ?_))
    | (refine atd 16 (by rfl) ?_; refine wl (by rfl) (s_bs (E := 5) (z := (.int .u8 0)) HS.out 1 1 (bs [1]) (by rfl) Try.underlying22 (by kernel_rfl) (by rfl) (by decide) (by decide) (by kernel_rfl) (by rfl) (by decide) ?_); intro b16 Wn hS; clear HS; have HS := Lib.hid hS; clear hS)
    | (refine atd 18 (by rfl) ?_; refine wl (by rfl) (s_ld (v := .int .i64 1) HS.out 1 (by rfl) (by rfl) (by rfl) (by kernel_rfl) (by exact HK0.out (.slice As r.sb.length cs') (.slice Ab r.bb.length cb')) ?_))
    | (refine atd 22 (by rfl) ?_; refine wl (by rfl) (s_ld (v := .int .i64 1) HS.out 1 (by rfl) (by rfl) (by rfl) (by kernel_rfl) (by exact HK0.out (.slice As r.sb.length cs') (.slice Ab r.bb.length cb')) ?_))
    | (refine atd 37 (by rfl) ?_; refine wl (by rfl) (s_ld (v := .int .i64 1) HS.out 1 (by rfl) (by rfl) (by rfl) (by kernel_rfl) (by exact HK0.out (.slice As r.sb.length cs') (.slice Ab r.bb.length cb')) ?_))
    | (refine atd 41 (by rfl) ?_; refine wl (by rfl) (s_ld (v := .int .i64 1) HS.out 1 (by rfl) (by rfl) (by rfl) (by kernel_rfl) (by exact HK0.out (.slice As r.sb.length cs') (.slice Ab r.bb.length cb')) ?_))
    | (refine atd 51 (by rfl) ?_; refine wl (by rfl) (s_ld (v := .int .i64 1) HS.out 1 (by rfl) (by rfl) (by rfl) (by kernel_rfl) (by exact HK0.out (.slice As r.sb.length cs') (.slice Ab r.bb.length cb')) ?_))
    | (refine atd 56 (by rfl) ?_; refine wl (by rfl) (s_ld HS.out 1 (by rfl) (by rfl) (by rfl) (by kernel_rfl) (by exact rcs_69 HR.out (.slice As r.sb.length cs') (.slice Ab r.bb.length cb')) ?_))
    | (refine atd 57 (by rfl) ?_; refine wl (by rfl) (s_app (xs := [1]) HS.out 0 (by rfl) Try.underlying22 u8_info (by rfl) (by rfl) (by rfl) (HS.out.fact (i := 1) rfl) (by simp [le_length, csize_length, HTX.out, HHA.out, HCO.out]; try omega) ?_); intro v57 Wn hS; clear HS; have HS := Lib.hid hS; clear hS))
  go_ret2
  exact ⟨_, rfl, by rw [← HQ.out]; exact HS.out.give 0 rfl⟩
end
section
open Go Go.RowKit Go.Proofs
attribute [local irreducible] Calls
set_option maxHeartbeats 1000000 in
set_option maxRecDepth 100000 in
theorem form50b (r : Req) (As Ab : Option Addr) (cs' cb' : Nat) (w : World) (hr : r.ok) (hs : HB w (.slice As r.sb.length cs') r.sb) (hb : HB w (.slice Ab r.bb.length cb') r.bb) (hk : r.k = 2) (hl1 : r.sb.length ≤ 1000000) (hl2 : r.bb.length ≤ 1000000) :
    Calls Try.prog 50 #[.agg (rcs r (.slice As r.sb.length cs') (.slice Ab r.bb.length cb')).toArray] w fun e w' => ∃ v', e = .returned (.tuple #[v', .bool true]) ∧ New w w' (Row v' 5 1 (encQ r).length (bs (encQ r))) := by
  have HS := Lib.hid (((St.start w).addF hb.away0).addF hs.away0)
  have HR := Lib.hid hr; have HTX := Lib.hid hr.tx; have HHA := Lib.hid hr.ha; have HLS := Lib.hid hl1
  have hn1 := hr.n; have hn2 := hr.h; have hn3 := hr.m
  have hco : compact r.sb.length ≤ 9 := by unfold compact; repeat' split
                                           all_goals simp
  have HCO := Lib.hid hco
  have HK0 := Lib.hid (show ∀ s b, (rcs r s b)[0]? = some (.int .i64 2) from fun s b => by rw [rcs_0, hk])
  have hq : [2] ++ r.tx ++ le 4 r.n ++ le 4 r.h = encQ r := by
    rw [encQ_cons (kb := 2) hk (f := 3) (by rw [hk]; rfl) (l := (r.tx ++ (le 4 r.n ++ le 4 r.h))) (by simp [encF])]
    try simp
  have HQ := Lib.hid hq
  clear hb hs hr hk hq
  go_enter Try.func50, Try.ntmps50
  go_wp2_with (first
    | (refine atd 1 (by rfl) ?_; refine wl (by rfl) (s_bx (l := rcs r (.slice As r.sb.length cs') (.slice Ab r.bb.length cb')) HS.out (by rfl) (by rfl) ?_); intro b1 Wn hS; clear HS; have HS := Lib.hid hS; clear hS)
    | (refine atd 6 (by rfl) ?_; refine wl (by rfl) (s_ld (v := .int .i64 2) HS.out 0 (by rfl) (by rfl) (by rfl) (by kernel_rfl) (by exact HK0.out (.slice As r.sb.length cs') (.slice Ab r.bb.length cb')) ?_))
    | (refine atd 10 (by rfl) ?_; refine wl (by rfl) (s_ld (v := .int .i64 2) HS.out 0 (by rfl) (by rfl) (by rfl) (by kernel_rfl) (by exact HK0.out (.slice As r.sb.length cs') (.slice Ab r.bb.length cb')) ?_))
    | (refine atd 14 (by rfl) ?_; refine wl (by rfl) (s_ld (v := .int .i64 2) HS.out 0 (by rfl) (by rfl) (by rfl) (by kernel_rfl) (by exact HK0.out (.slice As r.sb.length cs') (.slice Ab r.bb.length cb')) ?_))
    | (refine atd 16 (by rfl) ?_; refine wl (by rfl) (s_bs (E := 5) (z := (.int .u8 0)) HS.out 1 1 (bs [2]) (by rfl) Try.underlying22 (by kernel_rfl) (by rfl) (by decide) (by decide) (by kernel_rfl) (by rfl) (by decide) ?_); intro b16 Wn hS; clear HS; have HS := Lib.hid hS; clear hS)
    | (refine atd 18 (by rfl) ?_; refine wl (by rfl) (s_ld (v := .int .i64 2) HS.out 1 (by rfl) (by rfl) (by rfl) (by kernel_rfl) (by exact HK0.out (.slice As r.sb.length cs') (.slice Ab r.bb.length cb')) ?_))
    | (refine atd 22 (by rfl) ?_; refine wl (by rfl) (s_ld (v := .int .i64 2) HS.out 1 (by rfl) (by rfl) (by rfl) (by kernel_rfl) (by exact HK0.out (.slice As r.sb.length cs') (.slice Ab r.bb.length cb')) ?_)))
  refine wp_region_pi [(0, true), (1, true), (2, true), (3, true), (5, true), (6, true), (7, true), (8, true), (4, false), (9, false), (10, false), (11, true)] (by kernel_rfl) (by kernel_rfl) rfl (by kernel_rfl) (fun _ _ _ _ _ h => h) (fun w' => St w w' [Blk b1 (rcs r (.slice As r.sb.length cs') (.slice Ab r.bb.length cb')) 56] [fun V => HB V (.slice As r.sb.length cs') r.sb, fun V => HB V (.slice Ab r.bb.length cb') r.bb]) (HS.out.drew.sub 0) ?_
  intro OPS hops
  have hS := HS.out.drew
  clear HS; have HS := Lib.hid hS; clear hS
  iterate 8
    first | (refine wpPi_yield _ (by rw [hops.out]; simp only [List.getElem?_toArray, List.getElem?_cons_succ, List.getElem?_cons_zero]; rfl) (by first | rfl | (rw [hops.out]; rfl)) (fun w' hS => by first | exact run_ld (by kernel_rfl) (by rfl) (by rfl) (hS.cell (i := 0) (k := 33) rfl (rcs_33 HR.out (.slice As r.sb.length cs') (.slice Ab r.bb.length cb'))) | exact run_sla (by rfl) (by rfl) | (go_simp; rfl)) ?_; simp only [Act.put, List.setIfInBounds_toArray, List.set_cons_succ, List.set_cons_zero]) | (refine wpPi_skip (by rw [hops.out]; simp only [List.getElem?_toArray, List.getElem?_cons_succ, List.getElem?_cons_zero]; rfl) (by first | rfl | (rw [hops.out]; rfl)) ?_; simp only [Act.put, List.setIfInBounds_toArray, List.set_cons_succ, List.set_cons_zero])
  refine wpPi_act (by rw [hops.out]; simp only [List.getElem?_toArray, List.getElem?_cons_succ, List.getElem?_cons_zero]; rfl) (by first | rfl | (rw [hops.out]; rfl)) ?_
  refine s_app (xs := [2]) HS.out 0 (by rfl) Try.underlying22 u8_info (by rfl) (by rfl) (by rfl) (by have hh := HB.of_range (xs := r.tx) (b := b1) (k := 1) (HS.out.range (i := 1) rfl (by rw [bs_length, HTX.out]; exact rcs_tx HR.out (.slice As r.sb.length cs') (.slice Ab r.bb.length cb'))); rw [HTX.out] at hh; exact hh) (by simp [le_length, csize_length, HTX.out, HHA.out, HCO.out]; try omega) ?_
  intro v29 Wn hS
  clear HS; have HS := Lib.hid hS; clear hS
  refine ⟨HS.out.sub 0, ?_⟩
  try simp only [Act.put, List.setIfInBounds_toArray, List.set_cons_succ, List.set_cons_zero]
  refine wpPi_act (by rw [hops.out]; simp only [List.getElem?_toArray, List.getElem?_cons_succ, List.getElem?_cons_zero]; rfl) (by first | rfl | (rw [hops.out]; rfl)) ?_
  go_simp
  refine (num72w r.n _ HR.out.n).mono ?_
  rintro e Wn ⟨v34, rfl, hb⟩
  have hS := HS.out.take hb
  clear HS; have HS := Lib.hid hS; clear hS
  clear hb
  obtain ⟨A34, c34, rfl⟩ := Row.sl (HS.out.res (i := 0) rfl)
  refine ⟨(HS.out.sub 0).sub 0, ?_⟩
  try simp only [Act.put, List.setIfInBounds_toArray, List.set_cons_succ, List.set_cons_zero]
  refine wpPi_act (by rw [hops.out]; simp only [List.getElem?_toArray, List.getElem?_cons_succ, List.getElem?_cons_zero]; rfl) (by first | rfl | (rw [hops.out]; rfl)) ?_
  refine s_app (xs := [2] ++ r.tx) HS.out 1 (by rfl) Try.underlying22 u8_info (by rfl) (by rfl) (by rfl) (Row.hb (HS.out.res (i := 0) rfl)) (by simp [le_length, csize_length, HTX.out, HHA.out, HCO.out]; try omega) ?_
  intro v35 Wn hS
  replace hS := hS.sub 0
  clear HS; have HS := Lib.hid hS; clear hS
  refine ⟨HS.out.sub 0, ?_⟩
  try simp only [Act.put, List.setIfInBounds_toArray, List.set_cons_succ, List.set_cons_zero]
  iterate 1
    first | (refine wpPi_yield _ (by rw [hops.out]; simp only [List.getElem?_toArray, List.getElem?_cons_succ, List.getElem?_cons_zero]; rfl) (by first | rfl | (rw [hops.out]; rfl)) (fun w' hS => by first | exact run_ld (by kernel_rfl) (by rfl) (by rfl) (hS.cell (i := 0) (k := 33) rfl (rcs_33 HR.out (.slice As r.sb.length cs') (.slice Ab r.bb.length cb'))) | exact run_sla (by rfl) (by rfl) | (go_simp; rfl)) ?_; simp only [Act.put, List.setIfInBounds_toArray, List.set_cons_succ, List.set_cons_zero]) | (refine wpPi_skip (by rw [hops.out]; simp only [List.getElem?_toArray, List.getElem?_cons_succ, List.getElem?_cons_zero]; rfl) (by first | rfl | (rw [hops.out]; rfl)) ?_; simp only [Act.put, List.setIfInBounds_toArray, List.set_cons_succ, List.set_cons_zero])
  simp only [wpPi]
  clear OPS hops
  go_wp2_with (first
    | (refine atd 37 (by rfl) ?_; refine wl (by rfl) (s_ld (v := .int .i64 2) HS.out 1 (by rfl) (by rfl) (by rfl) (by kernel_rfl) (by exact HK0.out (.slice As r.sb.length cs') (.slice Ab r.bb.length cb')) ?_))
    | (refine atd 41 (by rfl) ?_; refine wl (by rfl) (s_ld (v := .int .i64 2) HS.out 1 (by rfl) (by rfl) (by rfl) (by kernel_rfl) (by exact HK0.out (.slice As r.sb.length cs') (.slice Ab r.bb.length cb')) ?_))
    | (refine atd 51 (by rfl) ?_; refine wl (by rfl) (s_ld (v := .int .i64 2) HS.out 1 (by rfl) (by rfl) (by rfl) (by kernel_rfl) (by exact HK0.out (.slice As r.sb.length cs') (.slice Ab r.bb.length cb')) ?_))
    | (refine atd 46 (by rfl) ?_; refine wl (by rfl) (s_ld HS.out 1 (by rfl) (by rfl) (by rfl) (by kernel_rfl) (by exact rcs_34 HR.out (.slice As r.sb.length cs') (.slice Ab r.bb.length cb')) ?_))
    | (go_at_call 72; refine (num72 r.h _ (by first | exact HR.out.n | exact HR.out.h | exact HR.out.m)).mono ?_; rintro e Wn ⟨v72, rfl, hb⟩; have hS := HS.out.take hb; clear hb; clear HS; have HS := Lib.hid hS; clear hS; obtain ⟨A72, c72, rfl⟩ := Row.sl (HS.out.res (i := 0) rfl))
    | (refine atd 49 (by rfl) ?_; refine wl (by rfl) (s_app (xs := [2] ++ r.tx ++ le 4 r.n) HS.out 1 (by rfl) Try.underlying22 u8_info (by rfl) (by rfl) (by rfl) (Row.hb (HS.out.res (i := 0) rfl)) (by simp [le_length, csize_length, HTX.out, HHA.out, HCO.out]; try omega) ?_); intro v49 Wn hS; replace hS := hS.sub 0; clear HS; have HS := Lib.hid hS; clear hS))
  go_ret2
  exact ⟨_, rfl, by rw [← HQ.out]; exact HS.out.give 0 rfl⟩
end
section
open Go Go.RowKit Go.Proofs
attribute [local irreducible] Calls
set_option maxHeartbeats 1000000 in
set_option maxRecDepth 100000 in
theorem form50c (r : Req) (As Ab : Option Addr) (cs' cb' : Nat) (w : World) (hr : r.ok) (hs : HB w (.slice As r.sb.length cs') r.sb) (hb : HB w (.slice Ab r.bb.length cb') r.bb) (hk : r.k = 3) (hl1 : r.sb.length ≤ 1000000) (hl2 : r.bb.length ≤ 1000000) :
    Calls Try.prog 50 #[.agg (rcs r (.slice As r.sb.length cs') (.slice Ab r.bb.length cb')).toArray] w fun e w' => ∃ v', e = .returned (.tuple #[v', .bool true]) ∧ New w w' (Row v' 5 1 (encQ r).length (bs (encQ r))) := by
  have HS := Lib.hid (((St.start w).addF hb.away0).addF hs.away0)
  have HR := Lib.hid hr; have HTX := Lib.hid hr.tx; have HHA := Lib.hid hr.ha; have HLS := Lib.hid hl1
  have hn1 := hr.n; have hn2 := hr.h; have hn3 := hr.m
  have hco : compact r.sb.length ≤ 9 := by unfold compact; repeat' split
                                           all_goals simp
  have HCO := Lib.hid hco
  have HK0 := Lib.hid (show ∀ s b, (rcs r s b)[0]? = some (.int .i64 3) from fun s b => by rw [rcs_0, hk])
  have hq : [3] ++ le 4 r.h = encQ r := by
    rw [encQ_cons (kb := 3) hk (f := 2) (by rw [hk]; rfl) (l := (le 4 r.h)) (by simp [encF])]
    try simp
  have HQ := Lib.hid hq
  clear hb hs hr hk hq
  go_enter Try.func50, Try.ntmps50
  go_wp2_with (first
    | (refine atd 1 (by rfl) ?_; refine wl (by rfl) (s_bx (l := rcs r (.slice As r.sb.length cs') (.slice Ab r.bb.length cb')) HS.out (by rfl) (by rfl) ?_); intro b1 Wn hS; clear HS; have HS := Lib.hid hS; clear hS)
    | (refine atd 6 (by rfl) ?_; refine wl (by rfl) (s_ld (v := .int .i64 3) HS.out 0 (by rfl) (by rfl) (by rfl) (by kernel_rfl) (by exact HK0.out (.slice As r.sb.length cs') (.slice Ab r.bb.length cb')) ?_))
    | (refine atd 10 (by rfl) ?_; refine wl (by rfl) (s_ld (v := .int .i64 3) HS.out 0 (by rfl) (by rfl) (by rfl) (by kernel_rfl) (by exact HK0.out (.slice As r.sb.length cs') (.slice Ab r.bb.length cb')) ?_))
    | (refine atd 14 (by rfl) ?_; refine wl (by rfl) (s_ld (v := .int .i64 3) HS.out 0 (by rfl) (by rfl) (by rfl) (by kernel_rfl) (by exact HK0.out (.slice As r.sb.length cs') (.slice Ab r.bb.length cb')) ?_))
    | (refine atd 16 (by rfl) ?_; refine wl (by rfl) (s_bs (E := 5) (z := (.int .u8 0)) HS.out 1 1 (bs [3]) (by rfl) Try.underlying22 (by kernel_rfl) (by rfl) (by decide) (by decide) (by kernel_rfl) (by rfl) (by decide) ?_); intro b16 Wn hS; clear HS; have HS := Lib.hid hS; clear hS)
    | (refine atd 18 (by rfl) ?_; refine wl (by rfl) (s_ld (v := .int .i64 3) HS.out 1 (by rfl) (by rfl) (by rfl) (by kernel_rfl) (by exact HK0.out (.slice As r.sb.length cs') (.slice Ab r.bb.length cb')) ?_))
    | (refine atd 22 (by rfl) ?_; refine wl (by rfl) (s_ld (v := .int .i64 3) HS.out 1 (by rfl) (by rfl) (by rfl) (by kernel_rfl) (by exact HK0.out (.slice As r.sb.length cs') (.slice Ab r.bb.length cb')) ?_))
    | (refine atd 37 (by rfl) ?_; refine wl (by rfl) (s_ld (v := .int .i64 3) HS.out 1 (by rfl) (by rfl) (by rfl) (by kernel_rfl) (by exact HK0.out (.slice As r.sb.length cs') (.slice Ab r.bb.length cb')) ?_))
    | (refine atd 41 (by rfl) ?_; refine wl (by rfl) (s_ld (v := .int .i64 3) HS.out 1 (by rfl) (by rfl) (by rfl) (by kernel_rfl) (by exact HK0.out (.slice As r.sb.length cs') (.slice Ab r.bb.length cb')) ?_))
    | (refine atd 51 (by rfl) ?_; refine wl (by rfl) (s_ld (v := .int .i64 3) HS.out 1 (by rfl) (by rfl) (by rfl) (by kernel_rfl) (by exact HK0.out (.slice As r.sb.length cs') (.slice Ab r.bb.length cb')) ?_))
    | (refine atd 46 (by rfl) ?_; refine wl (by rfl) (s_ld HS.out 1 (by rfl) (by rfl) (by rfl) (by kernel_rfl) (by exact rcs_34 HR.out (.slice As r.sb.length cs') (.slice Ab r.bb.length cb')) ?_))
    | (go_at_call 72; refine (num72 r.h _ (by first | exact HR.out.n | exact HR.out.h | exact HR.out.m)).mono ?_; rintro e Wn ⟨v72, rfl, hb⟩; have hS := HS.out.take hb; clear hb; clear HS; have HS := Lib.hid hS; clear hS; obtain ⟨A72, c72, rfl⟩ := Row.sl (HS.out.res (i := 0) rfl))
    | (refine atd 49 (by rfl) ?_; refine wl (by rfl) (s_app (xs := [3]) HS.out 1 (by rfl) Try.underlying22 u8_info (by rfl) (by rfl) (by rfl) (Row.hb (HS.out.res (i := 0) rfl)) (by simp [le_length, csize_length, HTX.out, HHA.out, HCO.out]; try omega) ?_); intro v49 Wn hS; replace hS := hS.sub 0; clear HS; have HS := Lib.hid hS; clear hS))
  go_ret2
  exact ⟨_, rfl, by rw [← HQ.out]; exact HS.out.give 0 rfl⟩
end
section
open Go Go.RowKit Go.Proofs
attribute [local irreducible] Calls
set_option maxHeartbeats 1000000 in
set_option maxRecDepth 100000 in
theorem form50d (r : Req) (As Ab : Option Addr) (cs' cb' : Nat) (w : World) (hr : r.ok) (hs : HB w (.slice As r.sb.length cs') r.sb) (hb : HB w (.slice Ab r.bb.length cb') r.bb) (hk : r.k = 4) (hl1 : r.sb.length ≤ 1000000) (hl2 : r.bb.length ≤ 1000000) :
    Calls Try.prog 50 #[.agg (rcs r (.slice As r.sb.length cs') (.slice Ab r.bb.length cb')).toArray] w fun e w' => ∃ v', e = .returned (.tuple #[v', .bool true]) ∧ New w w' (Row v' 5 1 (encQ r).length (bs (encQ r))) := by
  have HS := Lib.hid (((St.start w).addF hb.away0).addF hs.away0)
  have HR := Lib.hid hr; have HTX := Lib.hid hr.tx; have HHA := Lib.hid hr.ha; have HLS := Lib.hid hl1
  have hn1 := hr.n; have hn2 := hr.h; have hn3 := hr.m
  have hco : compact r.sb.length ≤ 9 := by unfold compact; repeat' split
                                           all_goals simp
  have HCO := Lib.hid hco
  have HK0 := Lib.hid (show ∀ s b, (rcs r s b)[0]? = some (.int .i64 4) from fun s b => by rw [rcs_0, hk])
  have hq : [4] ++ le 4 r.h ++ (csize r.sb.length ++ r.sb) = encQ r := by
    rw [encQ_cons (kb := 4) hk (f := 10) (by rw [hk]; rfl) (l := (le 4 r.h ++ (csize r.sb.length ++ r.sb))) (by simp [encF])]
    try simp
  have HQ := Lib.hid hq
  clear hb hs hr hk hq
  go_enter Try.func50, Try.ntmps50
  go_wp2_with (first
    | (refine atd 1 (by rfl) ?_; refine wl (by rfl) (s_bx (l := rcs r (.slice As r.sb.length cs') (.slice Ab r.bb.length cb')) HS.out (by rfl) (by rfl) ?_); intro b1 Wn hS; clear HS; have HS := Lib.hid hS; clear hS)
    | (refine atd 6 (by rfl) ?_; refine wl (by rfl) (s_ld (v := .int .i64 4) HS.out 0 (by rfl) (by rfl) (by rfl) (by kernel_rfl) (by exact HK0.out (.slice As r.sb.length cs') (.slice Ab r.bb.length cb')) ?_))
    | (refine atd 10 (by rfl) ?_; refine wl (by rfl) (s_ld (v := .int .i64 4) HS.out 0 (by rfl) (by rfl) (by rfl) (by kernel_rfl) (by exact HK0.out (.slice As r.sb.length cs') (.slice Ab r.bb.length cb')) ?_))
    | (refine atd 14 (by rfl) ?_; refine wl (by rfl) (s_ld (v := .int .i64 4) HS.out 0 (by rfl) (by rfl) (by rfl) (by kernel_rfl) (by exact HK0.out (.slice As r.sb.length cs') (.slice Ab r.bb.length cb')) ?_))
    | (refine atd 16 (by rfl) ?_; refine wl (by rfl) (s_bs (E := 5) (z := (.int .u8 0)) HS.out 1 1 (bs [4]) (by rfl) Try.underlying22 (by kernel_rfl) (by rfl) (by decide) (by decide) (by kernel_rfl) (by rfl) (by decide) ?_); intro b16 Wn hS; clear HS; have HS := Lib.hid hS; clear hS)
    | (refine atd 18 (by rfl) ?_; refine wl (by rfl) (s_ld (v := .int .i64 4) HS.out 1 (by rfl) (by rfl) (by rfl) (by kernel_rfl) (by exact HK0.out (.slice As r.sb.length cs') (.slice Ab r.bb.length cb')) ?_))
    | (refine atd 22 (by rfl) ?_; refine wl (by rfl) (s_ld (v := .int .i64 4) HS.out 1 (by rfl) (by rfl) (by rfl) (by kernel_rfl) (by exact HK0.out (.slice As r.sb.length cs') (.slice Ab r.bb.length cb')) ?_))
    | (refine atd 37 (by rfl) ?_; refine wl (by rfl) (s_ld (v := .int .i64 4) HS.out 1 (by rfl) (by rfl) (by rfl) (by kernel_rfl) (by exact HK0.out (.slice As r.sb.length cs') (.slice Ab r.bb.length cb')) ?_))
    | (refine atd 41 (by rfl) ?_; refine wl (by rfl) (s_ld (v := .int .i64 4) HS.out 1 (by rfl) (by rfl) (by rfl) (by kernel_rfl) (by exact HK0.out (.slice As r.sb.length cs') (.slice Ab r.bb.length cb')) ?_))
    | (refine atd 51 (by rfl) ?_; refine wl (by rfl) (s_ld (v := .int .i64 4) HS.out 1 (by rfl) (by rfl) (by rfl) (by kernel_rfl) (by exact HK0.out (.slice As r.sb.length cs') (.slice Ab r.bb.length cb')) ?_))
    | (refine atd 46 (by rfl) ?_; refine wl (by rfl) (s_ld HS.out 1 (by rfl) (by rfl) (by rfl) (by kernel_rfl) (by exact rcs_34 HR.out (.slice As r.sb.length cs') (.slice Ab r.bb.length cb')) ?_))
    | (go_at_call 72; refine (num72 r.h _ (by first | exact HR.out.n | exact HR.out.h | exact HR.out.m)).mono ?_; rintro e Wn ⟨v72, rfl, hb⟩; have hS := HS.out.take hb; clear hb; clear HS; have HS := Lib.hid hS; clear hS; obtain ⟨A72, c72, rfl⟩ := Row.sl (HS.out.res (i := 0) rfl))
    | (refine atd 49 (by rfl) ?_; refine wl (by rfl) (s_app (xs := [4]) HS.out 1 (by rfl) Try.underlying22 u8_info (by rfl) (by rfl) (by rfl) (Row.hb (HS.out.res (i := 0) rfl)) (by simp [le_length, csize_length, HTX.out, HHA.out, HCO.out]; try omega) ?_); intro v49 Wn hS; replace hS := hS.sub 0; clear HS; have HS := Lib.hid hS; clear hS)
    | (refine atd 62 (by rfl) ?_; refine wl (by rfl) (s_ld HS.out 1 (by rfl) (by rfl) (by rfl) (by kernel_rfl) (by exact rcs_36 HR.out (.slice As r.sb.length cs') (.slice Ab r.bb.length cb')) ?_))
    | (go_at_call 73; refine (rbytes73 _ r.sb _ (HS.out.fact (i := 0) rfl) HLS.out).mono ?_; rintro e Wn ⟨v63, ys, hys, hyl, rfl, hb⟩; have HYS := Lib.hid hys; clear hys; have hS := HS.out.take hb; clear hb; clear HS; have HS := Lib.hid hS; clear hS; obtain ⟨A63, c63, rfl⟩ := Row.sl (HS.out.res (i := 0) rfl))
    | (refine atd 64 (by rfl) ?_; refine wl (by rfl) (s_app (xs := [4] ++ le 4 r.h) HS.out 1 (by rfl) Try.underlying22 u8_info (by rfl) (by rfl) (by rfl) (Row.hb (HS.out.res (i := 0) rfl)) (by simp [le_length, csize_length, HTX.out, HHA.out, HCO.out]; try omega) ?_); intro v64 Wn hS; replace hS := hS.sub 0; clear HS; have HS := Lib.hid hS; clear hS))
  go_ret2
  exact ⟨_, rfl, by rw [← HQ.out, ← HYS.out]; exact HS.out.give 0 rfl⟩
end
section
open Go Go.RowKit Go.Proofs
attribute [local irreducible] Calls
set_option maxHeartbeats 1000000 in
set_option maxRecDepth 100000 in
theorem form50e (r : Req) (As Ab : Option Addr) (cs' cb' : Nat) (w : World) (hr : r.ok) (hs : HB w (.slice As r.sb.length cs') r.sb) (hb : HB w (.slice Ab r.bb.length cb') r.bb) (hk : r.k = 5) (hl1 : r.sb.length ≤ 1000000) (hl2 : r.bb.length ≤ 1000000) :
    Calls Try.prog 50 #[.agg (rcs r (.slice As r.sb.length cs') (.slice Ab r.bb.length cb')).toArray] w fun e w' => ∃ v', e = .returned (.tuple #[v', .bool true]) ∧ New w w' (Row v' 5 1 (encQ r).length (bs (encQ r))) := by
  have HS := Lib.hid (((St.start w).addF hb.away0).addF hs.away0)
  have HR := Lib.hid hr; have HTX := Lib.hid hr.tx; have HHA := Lib.hid hr.ha; have HLS := Lib.hid hl1
  have hn1 := hr.n; have hn2 := hr.h; have hn3 := hr.m
  have hco : compact r.sb.length ≤ 9 := by unfold compact; repeat' split
                                           all_goals simp
  have HCO := Lib.hid hco
  have HK0 := Lib.hid (show ∀ s b, (rcs r s b)[0]? = some (.int .i64 5) from fun s b => by rw [rcs_0, hk])
  have hq : [5] ++ le 4 r.h ++ le 4 r.m = encQ r := by
    rw [encQ_cons (kb := 5) hk (f := 6) (by rw [hk]; rfl) (l := (le 4 r.h ++ le 4 r.m)) (by simp [encF])]
    try simp
  have HQ := Lib.hid hq
  clear hb hs hr hk hq
  go_enter Try.func50, Try.ntmps50
  go_wp2_with (first
    | (refine atd 1 (by rfl) ?_; refine wl (by rfl) (s_bx (l := rcs r (.slice As r.sb.length cs') (.slice Ab r.bb.length cb')) HS.out (by rfl) (by rfl) ?_); intro b1 Wn hS; clear HS; have HS := Lib.hid hS; clear hS)
    | (refine atd 6 (by rfl) ?_; refine wl (by rfl) (s_ld (v := .int .i64 5) HS.out 0 (by rfl) (by rfl) (by rfl) (by kernel_rfl) (by exact HK0.out (.slice As r.sb.length cs') (.slice Ab r.bb.length cb')) ?_))
    | (refine atd 10 (by rfl) ?_; refine wl (by rfl) (s_ld (v := .int .i64 5) HS.out 0 (by rfl) (by rfl) (by rfl) (by kernel_rfl) (by exact HK0.out (.slice As r.sb.length cs') (.slice Ab r.bb.length cb')) ?_))
    | (refine atd 14 (by rfl) ?_; refine wl (by rfl) (s_ld (v := .int .i64 5) HS.out 0 (by rfl) (by rfl) (by rfl) (by kernel_rfl) (by exact HK0.out (.slice As r.sb.length cs') (.slice Ab r.bb.length cb')) ?_))
    | (refine atd 16 (by rfl) ?_; refine wl (by rfl) (s_bs (E := 5) (z := (.int .u8 0)) HS.out 1 1 (bs [5]) (by rfl) Try.underlying22 (by kernel_rfl) (by rfl) (by decide) (by decide) (by kernel_rfl) (by rfl) (by decide) ?_); intro b16 Wn hS; clear HS; have HS := Lib.hid hS; clear hS)
    | (refine atd 18 (by rfl) ?_; refine wl (by rfl) (s_ld (v := .int .i64 5) HS.out 1 (by rfl) (by rfl) (by rfl) (by kernel_rfl) (by exact HK0.out (.slice As r.sb.length cs') (.slice Ab r.bb.length cb')) ?_))
    | (refine atd 22 (by rfl) ?_; refine wl (by rfl) (s_ld (v := .int .i64 5) HS.out 1 (by rfl) (by rfl) (by rfl) (by kernel_rfl) (by exact HK0.out (.slice As r.sb.length cs') (.slice Ab r.bb.length cb')) ?_))
    | (refine atd 37 (by rfl) ?_; refine wl (by rfl) (s_ld (v := .int .i64 5) HS.out 1 (by rfl) (by rfl) (by rfl) (by kernel_rfl) (by exact HK0.out (.slice As r.sb.length cs') (.slice Ab r.bb.length cb')) ?_))
    | (refine atd 41 (by rfl) ?_; refine wl (by rfl) (s_ld (v := .int .i64 5) HS.out 1 (by rfl) (by rfl) (by rfl) (by kernel_rfl) (by exact HK0.out (.slice As r.sb.length cs') (.slice Ab r.bb.length cb')) ?_))
    | (refine atd 51 (by rfl) ?_; refine wl (by rfl) (s_ld (v := .int .i64 5) HS.out 1 (by rfl) (by rfl) (by rfl) (by kernel_rfl) (by exact HK0.out (.slice As r.sb.length cs') (.slice Ab r.bb.length cb')) ?_))
    | (refine atd 46 (by rfl) ?_; refine wl (by rfl) (s_ld HS.out 1 (by rfl) (by rfl) (by rfl) (by kernel_rfl) (by exact rcs_34 HR.out (.slice As r.sb.length cs') (.slice Ab r.bb.length cb')) ?_))
    | (go_at_call 72; refine (num72 r.h _ (by first | exact HR.out.n | exact HR.out.h | exact HR.out.m)).mono ?_; rintro e Wn ⟨v72, rfl, hb⟩; have hS := HS.out.take hb; clear hb; clear HS; have HS := Lib.hid hS; clear hS; obtain ⟨A72, c72, rfl⟩ := Row.sl (HS.out.res (i := 0) rfl))
    | (refine atd 49 (by rfl) ?_; refine wl (by rfl) (s_app (xs := [5]) HS.out 1 (by rfl) Try.underlying22 u8_info (by rfl) (by rfl) (by rfl) (Row.hb (HS.out.res (i := 0) rfl)) (by simp [le_length, csize_length, HTX.out, HHA.out, HCO.out]; try omega) ?_); intro v49 Wn hS; replace hS := hS.sub 0; clear HS; have HS := Lib.hid hS; clear hS)
    | (refine atd 69 (by rfl) ?_; refine wl (by rfl) (s_ld HS.out 1 (by rfl) (by rfl) (by rfl) (by kernel_rfl) (by exact rcs_35 HR.out (.slice As r.sb.length cs') (.slice Ab r.bb.length cb')) ?_))
    | (go_at_call 72; refine (num72 r.m _ (by first | exact HR.out.n | exact HR.out.h | exact HR.out.m)).mono ?_; rintro e Wn ⟨v72, rfl, hb⟩; have hS := HS.out.take hb; clear hb; clear HS; have HS := Lib.hid hS; clear hS; obtain ⟨A72, c72, rfl⟩ := Row.sl (HS.out.res (i := 0) rfl))
    | (refine atd 72 (by rfl) ?_; refine wl (by rfl) (s_app (xs := [5] ++ le 4 r.h) HS.out 1 (by rfl) Try.underlying22 u8_info (by rfl) (by rfl) (by rfl) (Row.hb (HS.out.res (i := 0) rfl)) (by simp [le_length, csize_length, HTX.out, HHA.out, HCO.out]; try omega) ?_); intro v72a Wn hS; replace hS := hS.sub 0; clear HS; have HS := Lib.hid hS; clear hS))
  go_ret2
  exact ⟨_, rfl, by rw [← HQ.out]; exact HS.out.give 0 rfl⟩
end
section
open Go Go.RowKit Go.Proofs
attribute [local irreducible] Calls
set_option maxHeartbeats 1000000 in
set_option maxRecDepth 100000 in
theorem form50f (r : Req) (As Ab : Option Addr) (cs' cb' : Nat) (w : World) (hr : r.ok) (hs : HB w (.slice As r.sb.length cs') r.sb) (hb : HB w (.slice Ab r.bb.length cb') r.bb) (hk : r.k = 6) (hl1 : r.sb.length ≤ 1000000) (hl2 : r.bb.length ≤ 1000000) :
    Calls Try.prog 50 #[.agg (rcs r (.slice As r.sb.length cs') (.slice Ab r.bb.length cb')).toArray] w fun e w' => ∃ v', e = .returned (.tuple #[v', .bool true]) ∧ New w w' (Row v' 5 1 (encQ r).length (bs (encQ r))) := by
  have HS := Lib.hid (((St.start w).addF hb.away0).addF hs.away0)
  have HR := Lib.hid hr; have HTX := Lib.hid hr.tx; have HHA := Lib.hid hr.ha; have HLS := Lib.hid hl1
  have hn1 := hr.n; have hn2 := hr.h; have hn3 := hr.m
  have hco : compact r.sb.length ≤ 9 := by unfold compact; repeat' split
                                           all_goals simp
  have HCO := Lib.hid hco
  have HK0 := Lib.hid (show ∀ s b, (rcs r s b)[0]? = some (.int .i64 6) from fun s b => by rw [rcs_0, hk])
  have hq : [6] ++ r.tx ++ le 4 r.n ++ le 4 r.h = encQ r := by
    rw [encQ_cons (kb := 6) hk (f := 3) (by rw [hk]; rfl) (l := (r.tx ++ (le 4 r.n ++ le 4 r.h))) (by simp [encF])]
    try simp
  have HQ := Lib.hid hq
  clear hb hs hr hk hq
  go_enter Try.func50, Try.ntmps50
  go_wp2_with (first
    | (refine atd 1 (by rfl) ?_; refine wl (by rfl) (s_bx (l := rcs r (.slice As r.sb.length cs') (.slice Ab r.bb.length cb')) HS.out (by rfl) (by rfl) ?_); intro b1 Wn hS; clear HS; have HS := Lib.hid hS; clear hS)
    | (refine atd 6 (by rfl) ?_; refine wl (by rfl) (s_ld (v := .int .i64 6) HS.out 0 (by rfl) (by rfl) (by rfl) (by kernel_rfl) (by exact HK0.out (.slice As r.sb.length cs') (.slice Ab r.bb.length cb')) ?_))
    | (refine atd 10 (by rfl) ?_; refine wl (by rfl) (s_ld (v := .int .i64 6) HS.out 0 (by rfl) (by rfl) (by rfl) (by kernel_rfl) (by exact HK0.out (.slice As r.sb.length cs') (.slice Ab r.bb.length cb')) ?_))
    | (refine atd 14 (by rfl) ?_; refine wl (by rfl) (s_ld (v := .int .i64 6) HS.out 0 (by rfl) (by rfl) (by rfl) (by kernel_rfl) (by exact HK0.out (.slice As r.sb.length cs') (.slice Ab r.bb.length cb')) ?_))
    | (refine atd 16 (by rfl) ?_; refine wl (by rfl) (s_bs (E := 5) (z := (.int .u8 0)) HS.out 1 1 (bs [6]) (by rfl) Try.underlying22 (by kernel_rfl) (by rfl) (by decide) (by decide) (by kernel_rfl) (by rfl) (by decide) ?_); intro b16 Wn hS; clear HS; have HS := Lib.hid hS; clear hS)
    | (refine atd 18 (by rfl) ?_; refine wl (by rfl) (s_ld (v := .int .i64 6) HS.out 1 (by rfl) (by rfl) (by rfl) (by kernel_rfl) (by exact HK0.out (.slice As r.sb.length cs') (.slice Ab r.bb.length cb')) ?_))
    | (refine atd 22 (by rfl) ?_; refine wl (by rfl) (s_ld (v := .int .i64 6) HS.out 1 (by rfl) (by rfl) (by rfl) (by kernel_rfl) (by exact HK0.out (.slice As r.sb.length cs') (.slice Ab r.bb.length cb')) ?_)))
  refine wp_region_pi [(0, true), (1, true), (2, true), (3, true), (5, true), (6, true), (7, true), (8, true), (4, false), (9, false), (10, false), (11, true)] (by kernel_rfl) (by kernel_rfl) rfl (by kernel_rfl) (fun _ _ _ _ _ h => h) (fun w' => St w w' [Blk b1 (rcs r (.slice As r.sb.length cs') (.slice Ab r.bb.length cb')) 56] [fun V => HB V (.slice As r.sb.length cs') r.sb, fun V => HB V (.slice Ab r.bb.length cb') r.bb]) (HS.out.drew.sub 0) ?_
  intro OPS hops
  have hS := HS.out.drew
  clear HS; have HS := Lib.hid hS; clear hS
  iterate 8
    first | (refine wpPi_yield _ (by rw [hops.out]; simp only [List.getElem?_toArray, List.getElem?_cons_succ, List.getElem?_cons_zero]; rfl) (by first | rfl | (rw [hops.out]; rfl)) (fun w' hS => by first | exact run_ld (by kernel_rfl) (by rfl) (by rfl) (hS.cell (i := 0) (k := 33) rfl (rcs_33 HR.out (.slice As r.sb.length cs') (.slice Ab r.bb.length cb'))) | exact run_sla (by rfl) (by rfl) | (go_simp; rfl)) ?_; simp only [Act.put, List.setIfInBounds_toArray, List.set_cons_succ, List.set_cons_zero]) | (refine wpPi_skip (by rw [hops.out]; simp only [List.getElem?_toArray, List.getElem?_cons_succ, List.getElem?_cons_zero]; rfl) (by first | rfl | (rw [hops.out]; rfl)) ?_; simp only [Act.put, List.setIfInBounds_toArray, List.set_cons_succ, List.set_cons_zero])
  refine wpPi_act (by rw [hops.out]; simp only [List.getElem?_toArray, List.getElem?_cons_succ, List.getElem?_cons_zero]; rfl) (by first | rfl | (rw [hops.out]; rfl)) ?_
  refine s_app (xs := [6]) HS.out 0 (by rfl) Try.underlying22 u8_info (by rfl) (by rfl) (by rfl) (by have hh := HB.of_range (xs := r.tx) (b := b1) (k := 1) (HS.out.range (i := 1) rfl (by rw [bs_length, HTX.out]; exact rcs_tx HR.out (.slice As r.sb.length cs') (.slice Ab r.bb.length cb'))); rw [HTX.out] at hh; exact hh) (by simp [le_length, csize_length, HTX.out, HHA.out, HCO.out]; try omega) ?_
  intro v29 Wn hS
  clear HS; have HS := Lib.hid hS; clear hS
  refine ⟨HS.out.sub 0, ?_⟩
  try simp only [Act.put, List.setIfInBounds_toArray, List.set_cons_succ, List.set_cons_zero]
  refine wpPi_act (by rw [hops.out]; simp only [List.getElem?_toArray, List.getElem?_cons_succ, List.getElem?_cons_zero]; rfl) (by first | rfl | (rw [hops.out]; rfl)) ?_
  go_simp
  refine (num72w r.n _ HR.out.n).mono ?_
  rintro e Wn ⟨v34, rfl, hb⟩
  have hS := HS.out.take hb
  clear HS; have HS := Lib.hid hS; clear hS
  clear hb
  obtain ⟨A34, c34, rfl⟩ := Row.sl (HS.out.res (i := 0) rfl)
  refine ⟨(HS.out.sub 0).sub 0, ?_⟩
  try simp only [Act.put, List.setIfInBounds_toArray, List.set_cons_succ, List.set_cons_zero]
  refine wpPi_act (by rw [hops.out]; simp only [List.getElem?_toArray, List.getElem?_cons_succ, List.getElem?_cons_zero]; rfl) (by first | rfl | (rw [hops.out]; rfl)) ?_
  refine s_app (xs := [6] ++ r.tx) HS.out 1 (by rfl) Try.underlying22 u8_info (by rfl) (by rfl) (by rfl) (Row.hb (HS.out.res (i := 0) rfl)) (by simp [le_length, csize_length, HTX.out, HHA.out, HCO.out]; try omega) ?_
  intro v35 Wn hS
  replace hS := hS.sub 0
  clear HS; have HS := Lib.hid hS; clear hS
  refine ⟨HS.out.sub 0, ?_⟩
  try simp only [Act.put, List.setIfInBounds_toArray, List.set_cons_succ, List.set_cons_zero]
  iterate 1
    first | (refine wpPi_yield _ (by rw [hops.out]; simp only [List.getElem?_toArray, List.getElem?_cons_succ, List.getElem?_cons_zero]; rfl) (by first | rfl | (rw [hops.out]; rfl)) (fun w' hS => by first | exact run_ld (by kernel_rfl) (by rfl) (by rfl) (hS.cell (i := 0) (k := 33) rfl (rcs_33 HR.out (.slice As r.sb.length cs') (.slice Ab r.bb.length cb'))) | exact run_sla (by rfl) (by rfl) | (go_simp; rfl)) ?_; simp only [Act.put, List.setIfInBounds_toArray, List.set_cons_succ, List.set_cons_zero]) | (refine wpPi_skip (by rw [hops.out]; simp only [List.getElem?_toArray, List.getElem?_cons_succ, List.getElem?_cons_zero]; rfl) (by first | rfl | (rw [hops.out]; rfl)) ?_; simp only [Act.put, List.setIfInBounds_toArray, List.set_cons_succ, List.set_cons_zero])
  simp only [wpPi]
  clear OPS hops
  go_wp2_with (first
    | (refine atd 37 (by rfl) ?_; refine wl (by rfl) (s_ld (v := .int .i64 6) HS.out 1 (by rfl) (by rfl) (by rfl) (by kernel_rfl) (by exact HK0.out (.slice As r.sb.length cs') (.slice Ab r.bb.length cb')) ?_))
    | (refine atd 41 (by rfl) ?_; refine wl (by rfl) (s_ld (v := .int .i64 6) HS.out 1 (by rfl) (by rfl) (by rfl) (by kernel_rfl) (by exact HK0.out (.slice As r.sb.length cs') (.slice Ab r.bb.length cb')) ?_))
    | (refine atd 51 (by rfl) ?_; refine wl (by rfl) (s_ld (v := .int .i64 6) HS.out 1 (by rfl) (by rfl) (by rfl) (by kernel_rfl) (by exact HK0.out (.slice As r.sb.length cs') (.slice Ab r.bb.length cb')) ?_))
    | (refine atd 46 (by rfl) ?_; refine wl (by rfl) (s_ld HS.out 1 (by rfl) (by rfl) (by rfl) (by kernel_rfl) (by exact rcs_34 HR.out (.slice As r.sb.length cs') (.slice Ab r.bb.length cb')) ?_))
    | (go_at_call 72; refine (num72 r.h _ (by first | exact HR.out.n | exact HR.out.h | exact HR.out.m)).mono ?_; rintro e Wn ⟨v72, rfl, hb⟩; have hS := HS.out.take hb; clear hb; clear HS; have HS := Lib.hid hS; clear hS; obtain ⟨A72, c72, rfl⟩ := Row.sl (HS.out.res (i := 0) rfl))
    | (refine atd 49 (by rfl) ?_; refine wl (by rfl) (s_app (xs := [6] ++ r.tx ++ le 4 r.n) HS.out 1 (by rfl) Try.underlying22 u8_info (by rfl) (by rfl) (by rfl) (Row.hb (HS.out.res (i := 0) rfl)) (by simp [le_length, csize_length, HTX.out, HHA.out, HCO.out]; try omega) ?_); intro v49 Wn hS; replace hS := hS.sub 0; clear HS; have HS := Lib.hid hS; clear hS))
  go_ret2
  exact ⟨_, rfl, by rw [← HQ.out]; exact HS.out.give 0 rfl⟩
end
section
open Go Go.RowKit Go.Proofs
attribute [local irreducible] Calls
set_option maxHeartbeats 1000000 in
set_option maxRecDepth 100000 in
theorem form50g (r : Req) (As Ab : Option Addr) (cs' cb' : Nat) (w : World) (hr : r.ok) (hs : HB w (.slice As r.sb.length cs') r.sb) (hb : HB w (.slice Ab r.bb.length cb') r.bb) (hk : r.k = 7) (hl1 : r.sb.length ≤ 1000000) (hl2 : r.bb.length ≤ 1000000) :
    Calls Try.prog 50 #[.agg (rcs r (.slice As r.sb.length cs') (.slice Ab r.bb.length cb')).toArray] w fun e w' => ∃ v', e = .returned (.tuple #[v', .bool true]) ∧ New w w' (Row v' 5 1 (encQ r).length (bs (encQ r))) := by
  have HS := Lib.hid (((St.start w).addF hb.away0).addF hs.away0)
  have HR := Lib.hid hr; have HTX := Lib.hid hr.tx; have HHA := Lib.hid hr.ha; have HLS := Lib.hid hl1
  have hn1 := hr.n; have hn2 := hr.h; have hn3 := hr.m
  have hco : compact r.sb.length ≤ 9 := by unfold compact; repeat' split
                                           all_goals simp
  have HCO := Lib.hid hco
  have HK0 := Lib.hid (show ∀ s b, (rcs r s b)[0]? = some (.int .i64 7) from fun s b => by rw [rcs_0, hk])
  have hq : [7] ++ le 4 r.h = encQ r := by
    rw [encQ_cons (kb := 7) hk (f := 2) (by rw [hk]; rfl) (l := (le 4 r.h)) (by simp [encF])]
    try simp
  have HQ := Lib.hid hq
  clear hb hs hr hk hq
  go_enter Try.func50, Try.ntmps50
  go_wp2_with (first
    | (refine atd 1 (by rfl) ?_; refine wl (by rfl) (s_bx (l := rcs r (.slice As r.sb.length cs') (.slice Ab r.bb.length cb')) HS.out (by rfl) (by rfl) ?_); intro b1 Wn hS; clear HS; have HS := Lib.hid hS; clear hS)
    | (refine atd 6 (by rfl) ?_; refine wl (by rfl) (s_ld (v := .int .i64 7) HS.out 0 (by rfl) (by rfl) (by rfl) (by kernel_rfl) (by exact HK0.out (.slice As r.sb.length cs') (.slice Ab r.bb.length cb')) ?_))
    | (refine atd 10 (by rfl) ?_; refine wl (by rfl) (s_ld (v := .int .i64 7) HS.out 0 (by rfl) (by rfl) (by rfl) (by kernel_rfl) (by exact HK0.out (.slice As r.sb.length cs') (.slice Ab r.bb.length cb')) ?_))
    | (refine atd 14 (by rfl) ?_; refine wl (by rfl) (s_ld (v := .int .i64 7) HS.out 0 (by rfl) (by rfl) (by rfl) (by kernel_rfl) (by exact HK0.out (.slice As r.sb.length cs') (.slice Ab r.bb.length cb')) ?_))
    | (refine atd 16 (by rfl) ?_; refine wl (by rfl) (s_bs (E := 5) (z := (.int .u8 0)) HS.out 1 1 (bs [7]) (by rfl) Try.underlying22 (by kernel_rfl) (by rfl) (by decide) (by decide) (by kernel_rfl) (by rfl) (by decide) ?_); intro b16 Wn hS; clear HS; have HS := Lib.hid hS; clear hS)
    | (refine atd 18 (by rfl) ?_; refine wl (by rfl) (s_ld (v := .int .i64 7) HS.out 1 (by rfl) (by rfl) (by rfl) (by kernel_rfl) (by exact HK0.out (.slice As r.sb.length cs') (.slice Ab r.bb.length cb')) ?_))
    | (refine atd 22 (by rfl) ?_; refine wl (by rfl) (s_ld (v := .int .i64 7) HS.out 1 (by rfl) (by rfl) (by rfl) (by kernel_rfl) (by exact HK0.out (.slice As r.sb.length cs') (.slice Ab r.bb.length cb')) ?_))
    | (refine atd 37 (by rfl) ?_; refine wl (by rfl) (s_ld (v := .int .i64 7) HS.out 1 (by rfl) (by rfl) (by rfl) (by kernel_rfl) (by exact HK0.out (.slice As r.sb.length cs') (.slice Ab r.bb.length cb')) ?_))
    | (refine atd 41 (by rfl) ?_; refine wl (by rfl) (s_ld (v := .int .i64 7) HS.out 1 (by rfl) (by rfl) (by rfl) (by kernel_rfl) (by exact HK0.out (.slice As r.sb.length cs') (.slice Ab r.bb.length cb')) ?_))
    | (refine atd 51 (by rfl) ?_; refine wl (by rfl) (s_ld (v := .int .i64 7) HS.out 1 (by rfl) (by rfl) (by rfl) (by kernel_rfl) (by exact HK0.out (.slice As r.sb.length cs') (.slice Ab r.bb.length cb')) ?_))
    | (refine atd 46 (by rfl) ?_; refine wl (by rfl) (s_ld HS.out 1 (by rfl) (by rfl) (by rfl) (by kernel_rfl) (by exact rcs_34 HR.out (.slice As r.sb.length cs') (.slice Ab r.bb.length cb')) ?_))
    | (go_at_call 72; refine (num72 r.h _ (by first | exact HR.out.n | exact HR.out.h | exact HR.out.m)).mono ?_; rintro e Wn ⟨v72, rfl, hb⟩; have hS := HS.out.take hb; clear hb; clear HS; have HS := Lib.hid hS; clear hS; obtain ⟨A72, c72, rfl⟩ := Row.sl (HS.out.res (i := 0) rfl))
    | (refine atd 49 (by rfl) ?_; refine wl (by rfl) (s_app (xs := [7]) HS.out 1 (by rfl) Try.underlying22 u8_info (by rfl) (by rfl) (by rfl) (Row.hb (HS.out.res (i := 0) rfl)) (by simp [le_length, csize_length, HTX.out, HHA.out, HCO.out]; try omega) ?_); intro v49 Wn hS; replace hS := hS.sub 0; clear HS; have HS := Lib.hid hS; clear hS))
  go_ret2
  exact ⟨_, rfl, by rw [← HQ.out]; exact HS.out.give 0 rfl⟩
end
section
open Go Go.RowKit Go.Proofs
attribute [local irreducible] Calls
set_option maxHeartbeats 1000000 in
set_option maxRecDepth 100000 in
theorem form50h (r : Req) (As Ab : Option Addr) (cs' cb' : Nat) (w : World) (hr : r.ok) (hs : HB w (.slice As r.sb.length cs') r.sb) (hb : HB w (.slice Ab r.bb.length cb') r.bb) (hk : r.k = 8) (hl1 : r.sb.length ≤ 1000000) (hl2 : r.bb.length ≤ 1000000) :
    Calls Try.prog 50 #[.agg (rcs r (.slice As r.sb.length cs') (.slice Ab r.bb.length cb')).toArray] w fun e w' => ∃ v', e = .returned (.tuple #[v', .bool true]) ∧ New w w' (Row v' 5 1 (encQ r).length (bs (encQ r))) := by
  have HS := Lib.hid (((St.start w).addF hb.away0).addF hs.away0)
  have HR := Lib.hid hr; have HTX := Lib.hid hr.tx; have HHA := Lib.hid hr.ha; have HLS := Lib.hid hl1
  have hn1 := hr.n; have hn2 := hr.h; have hn3 := hr.m
  have hco : compact r.sb.length ≤ 9 := by unfold compact; repeat' split
                                           all_goals simp
  have HCO := Lib.hid hco
  have HK0 := Lib.hid (show ∀ s b, (rcs r s b)[0]? = some (.int .i64 8) from fun s b => by rw [rcs_0, hk])
  have hq : [8] ++ r.ha = encQ r := by
    rw [encQ_cons (kb := 8) hk (f := 16) (by rw [hk]; rfl) (l := r.ha) (by simp [encF])]
    try simp
  have HQ := Lib.hid hq
  clear hb hs hr hk hq
  go_enter Try.func50, Try.ntmps50
  go_wp2_with (first
    | (refine atd 1 (by rfl) ?_; refine wl (by rfl) (s_bx (l := rcs r (.slice As r.sb.length cs') (.slice Ab r.bb.length cb')) HS.out (by rfl) (by rfl) ?_); intro b1 Wn hS; clear HS; have HS := Lib.hid hS; clear hS)
    | (refine atd 6 (by rfl) ?_; refine wl (by rfl) (s_ld (v := .int .i64 8) HS.out 0 (by rfl) (by rfl) (by rfl) (by kernel_rfl) (by exact HK0.out (.slice As r.sb.length cs') (.slice Ab r.bb.length cb')) ?_))
    | (refine atd 10 (by rfl) ?_; refine wl (by rfl) (s_ld (v := .int .i64 8) HS.out 0 (by rfl) (by rfl) (by rfl) (by kernel_rfl) (by exact HK0.out (.slice As r.sb.length cs') (.slice Ab r.bb.length cb')) ?_))
    | (refine atd 14 (by rfl) ?_; refine wl (by rfl) (s_ld (v := .int .i64 8) HS.out 0 (by rfl) (by rfl) (by rfl) (by kernel_rfl) (by exact HK0.out (.slice As r.sb.length cs') (.slice Ab r.bb.length cb')) ?_))
    | (refine atd 16 (by rfl) ?_; refine wl (by rfl) (s_bs (E := 5) (z := (.int .u8 0)) HS.out 1 1 (bs [8]) (by rfl) Try.underlying22 (by kernel_rfl) (by rfl) (by decide) (by decide) (by kernel_rfl) (by rfl) (by decide) ?_); intro b16 Wn hS; clear HS; have HS := Lib.hid hS; clear hS)
    | (refine atd 18 (by rfl) ?_; refine wl (by rfl) (s_ld (v := .int .i64 8) HS.out 1 (by rfl) (by rfl) (by rfl) (by kernel_rfl) (by exact HK0.out (.slice As r.sb.length cs') (.slice Ab r.bb.length cb')) ?_))
    | (refine atd 22 (by rfl) ?_; refine wl (by rfl) (s_ld (v := .int .i64 8) HS.out 1 (by rfl) (by rfl) (by rfl) (by kernel_rfl) (by exact HK0.out (.slice As r.sb.length cs') (.slice Ab r.bb.length cb')) ?_))
    | (refine atd 37 (by rfl) ?_; refine wl (by rfl) (s_ld (v := .int .i64 8) HS.out 1 (by rfl) (by rfl) (by rfl) (by kernel_rfl) (by exact HK0.out (.slice As r.sb.length cs') (.slice Ab r.bb.length cb')) ?_))
    | (refine atd 41 (by rfl) ?_; refine wl (by rfl) (s_ld (v := .int .i64 8) HS.out 1 (by rfl) (by rfl) (by rfl) (by kernel_rfl) (by exact HK0.out (.slice As r.sb.length cs') (.slice Ab r.bb.length cb')) ?_))
    | (refine atd 51 (by rfl) ?_; refine wl (by rfl) (s_ld (v := .int .i64 8) HS.out 1 (by rfl) (by rfl) (by rfl) (by kernel_rfl) (by exact HK0.out (.slice As r.sb.length cs') (.slice Ab r.bb.length cb')) ?_))
    | (refine atd 78 (by rfl) ?_; refine wl (by rfl) (wp_of_run (run_sla (by rfl) (by rfl)) ?_))
    | (refine atd 79 (by rfl) ?_; refine wl (by rfl) (s_app (xs := [8]) HS.out 0 (by rfl) Try.underlying22 u8_info (by rfl) (by rfl) (by rfl) (by have hh := HB.of_range (xs := r.ha) (b := b1) (k := 37) (HS.out.range (i := 1) rfl (by rw [bs_length, HHA.out]; exact rcs_ha HR.out (.slice As r.sb.length cs') (.slice Ab r.bb.length cb'))); rw [HHA.out] at hh; exact hh) (by simp [le_length, csize_length, HTX.out, HHA.out, HCO.out]; try omega) ?_); intro v79 Wn hS; clear HS; have HS := Lib.hid hS; clear hS))
  go_ret2
  exact ⟨_, rfl, by rw [← HQ.out]; exact HS.out.give 0 rfl⟩
end
section
open Go Go.RowKit Go.Proofs
attribute [local irreducible] Calls
set_option maxHeartbeats 1000000 in
set_option maxRecDepth 100000 in
theorem form50i (r : Req) (As Ab : Option Addr) (cs' cb' : Nat) (w : World) (hr : r.ok) (hs : HB w (.slice As r.sb.length cs') r.sb) (hb : HB w (.slice Ab r.bb.length cb') r.bb) (hk : r.k = 9) (hl1 : r.sb.length ≤ 1000000) (hl2 : r.bb.length ≤ 1000000) :
    Calls Try.prog 50 #[.agg (rcs r (.slice As r.sb.length cs') (.slice Ab r.bb.length cb')).toArray] w fun e w' => ∃ v', e = .returned (.tuple #[v', .bool true]) ∧ New w w' (Row v' 5 1 (encQ r).length (bs (encQ r))) := by
  have HS := Lib.hid (((St.start w).addF hb.away0).addF hs.away0)
  have HR := Lib.hid hr; have HTX := Lib.hid hr.tx; have HHA := Lib.hid hr.ha; have HLS := Lib.hid hl1
  have hn1 := hr.n; have hn2 := hr.h; have hn3 := hr.m
  have hco : compact r.sb.length ≤ 9 := by unfold compact; repeat' split
                                           all_goals simp
  have HCO := Lib.hid hco
  have HK0 := Lib.hid (show ∀ s b, (rcs r s b)[0]? = some (.int .i64 9) from fun s b => by rw [rcs_0, hk])
  have hq : [9] ++ r.ha = encQ r := by
    rw [encQ_cons (kb := 9) hk (f := 16) (by rw [hk]; rfl) (l := r.ha) (by simp [encF])]
    try simp
  have HQ := Lib.hid hq
  clear hb hs hr hk hq
  go_enter Try.func50, Try.ntmps50
  go_wp2_with (first
    | (refine atd 1 (by rfl) ?_; refine wl (by rfl) (s_bx (l := rcs r (.slice As r.sb.length cs') (.slice Ab r.bb.length cb')) HS.out (by rfl) (by rfl) ?_); intro b1 Wn hS; clear HS; have HS := Lib.hid hS; clear hS)
    | (refine atd 6 (by rfl) ?_; refine wl (by rfl) (s_ld (v := .int .i64 9) HS.out 0 (by rfl) (by rfl) (by rfl) (by kernel_rfl) (by exact HK0.out (.slice As r.sb.length cs') (.slice Ab r.bb.length cb')) ?_))
    | (refine atd 10 (by rfl) ?_; refine wl (by rfl) (s_ld (v := .int .i64 9) HS.out 0 (by rfl) (by rfl) (by rfl) (by kernel_rfl) (by exact HK0.out (.slice As r.sb.length cs') (.slice Ab r.bb.length cb')) ?_))
    | (refine atd 14 (by rfl) ?_; refine wl (by rfl) (s_ld (v := .int .i64 9) HS.out 0 (by rfl) (by rfl) (by rfl) (by kernel_rfl) (by exact HK0.out (.slice As r.sb.length cs') (.slice Ab r.bb.length cb')) ?_))
    | (refine atd 16 (by rfl) ?_; refine wl (by rfl) (s_bs (E := 5) (z := (.int .u8 0)) HS.out 1 1 (bs [9]) (by rfl) Try.underlying22 (by kernel_rfl) (by rfl) (by decide) (by decide) (by kernel_rfl) (by rfl) (by decide) ?_); intro b16 Wn hS; clear HS; have HS := Lib.hid hS; clear hS)
    | (refine atd 18 (by rfl) ?_; refine wl (by rfl) (s_ld (v := .int .i64 9) HS.out 1 (by rfl) (by rfl) (by rfl) (by kernel_rfl) (by exact HK0.out (.slice As r.sb.length cs') (.slice Ab r.bb.length cb')) ?_))
    | (refine atd 22 (by rfl) ?_; refine wl (by rfl) (s_ld (v := .int .i64 9) HS.out 1 (by rfl) (by rfl) (by rfl) (by kernel_rfl) (by exact HK0.out (.slice As r.sb.length cs') (.slice Ab r.bb.length cb')) ?_))
    | (refine atd 37 (by rfl) ?_; refine wl (by rfl) (s_ld (v := .int .i64 9) HS.out 1 (by rfl) (by rfl) (by rfl) (by kernel_rfl) (by exact HK0.out (.slice As r.sb.length cs') (.slice Ab r.bb.length cb')) ?_))
    | (refine atd 41 (by rfl) ?_; refine wl (by rfl) (s_ld (v := .int .i64 9) HS.out 1 (by rfl) (by rfl) (by rfl) (by kernel_rfl) (by exact HK0.out (.slice As r.sb.length cs') (.slice Ab r.bb.length cb')) ?_))
    | (refine atd 51 (by rfl) ?_; refine wl (by rfl) (s_ld (v := .int .i64 9) HS.out 1 (by rfl) (by rfl) (by rfl) (by kernel_rfl) (by exact HK0.out (.slice As r.sb.length cs') (.slice Ab r.bb.length cb')) ?_))
    | (refine atd 78 (by rfl) ?_; refine wl (by rfl) (wp_of_run (run_sla (by rfl) (by rfl)) ?_))
    | (refine atd 79 (by rfl) ?_; refine wl (by rfl) (s_app (xs := [9]) HS.out 0 (by rfl) Try.underlying22 u8_info (by rfl) (by rfl) (by rfl) (by have hh := HB.of_range (xs := r.ha) (b := b1) (k := 37) (HS.out.range (i := 1) rfl (by rw [bs_length, HHA.out]; exact rcs_ha HR.out (.slice As r.sb.length cs') (.slice Ab r.bb.length cb'))); rw [HHA.out] at hh; exact hh) (by simp [le_length, csize_length, HTX.out, HHA.out, HCO.out]; try omega) ?_); intro v79 Wn hS; clear HS; have HS := Lib.hid hS; clear hS))
  go_ret2
  exact ⟨_, rfl, by rw [← HQ.out]; exact HS.out.give 0 rfl⟩
end
section
open Go Go.RowKit Go.Proofs
attribute [local irreducible] Calls
set_option maxHeartbeats 1000000 in
set_option maxRecDepth 100000 in
theorem form50j (r : Req) (As Ab : Option Addr) (cs' cb' : Nat) (w : World) (hr : r.ok) (hs : HB w (.slice As r.sb.length cs') r.sb) (hb : HB w (.slice Ab r.bb.length cb') r.bb) (hk : r.k = 10) (hl1 : r.sb.length ≤ 1000000) (hl2 : r.bb.length ≤ 1000000) :
    Calls Try.prog 50 #[.agg (rcs r (.slice As r.sb.length cs') (.slice Ab r.bb.length cb')).toArray] w fun e w' => ∃ v', e = .returned (.tuple #[v', .bool true]) ∧ New w w' (Row v' 5 1 (encQ r).length (bs (encQ r))) := by
  have HS := Lib.hid (((St.start w).addF hb.away0).addF hs.away0)
  have HR := Lib.hid hr; have HTX := Lib.hid hr.tx; have HHA := Lib.hid hr.ha; have HLS := Lib.hid hl1
  have hn1 := hr.n; have hn2 := hr.h; have hn3 := hr.m
  have hco : compact r.sb.length ≤ 9 := by unfold compact; repeat' split
                                           all_goals simp
  have HCO := Lib.hid hco
  have HK0 := Lib.hid (show ∀ s b, (rcs r s b)[0]? = some (.int .i64 10) from fun s b => by rw [rcs_0, hk])
  have hq : [10] = encQ r := by
    rw [encQ_cons (kb := 10) hk (f := 0) (by rw [hk]; rfl) (l := []) (by simp [encF])]
    try simp
  have HQ := Lib.hid hq
  clear hb hs hr hk hq
  go_enter Try.func50, Try.ntmps50
  go_wp2_with (first
    | (refine atd 1 (by rfl) ?_; refine wl (by rfl) (s_bx (l := rcs r (.slice As r.sb.length cs') (.slice Ab r.bb.length cb')) HS.out (by rfl) (by rfl) ?_); intro b1 Wn hS; clear HS; have HS := Lib.hid hS; clear hS)
    | (refine atd 6 (by rfl) ?_; refine wl (by rfl) (s_ld (v := .int .i64 10) HS.out 0 (by rfl) (by rfl) (by rfl) (by kernel_rfl) (by exact HK0.out (.slice As r.sb.length cs') (.slice Ab r.bb.length cb')) ?_))
    | (refine atd 10 (by rfl) ?_; refine wl (by rfl) (s_ld (v := .int .i64 10) HS.out 0 (by rfl) (by rfl) (by rfl) (by kernel_rfl) (by exact HK0.out (.slice As r.sb.length cs') (.slice Ab r.bb.length cb')) ?_))
    | (refine atd 14 (by rfl) ?_; refine wl (by rfl) (s_ld (v := .int .i64 10) HS.out 0 (by rfl) (by rfl) (by rfl) (by kernel_rfl) (by exact HK0.out (.slice As r.sb.length cs') (.slice Ab r.bb.length cb')) ?_))
    | (refine atd 16 (by rfl) ?_; refine wl (by rfl) (s_bs (E := 5) (z := (.int .u8 0)) HS.out 1 1 (bs [10]) (by rfl) Try.underlying22 (by kernel_rfl) (by rfl) (by decide) (by decide) (by kernel_rfl) (by rfl) (by decide) ?_); intro b16 Wn hS; clear HS; have HS := Lib.hid hS; clear hS)
    | (refine atd 18 (by rfl) ?_; refine wl (by rfl) (s_ld (v := .int .i64 10) HS.out 1 (by rfl) (by rfl) (by rfl) (by kernel_rfl) (by exact HK0.out (.slice As r.sb.length cs') (.slice Ab r.bb.length cb')) ?_))
    | (refine atd 22 (by rfl) ?_; refine wl (by rfl) (s_ld (v := .int .i64 10) HS.out 1 (by rfl) (by rfl) (by rfl) (by kernel_rfl) (by exact HK0.out (.slice As r.sb.length cs') (.slice Ab r.bb.length cb')) ?_))
    | (refine atd 37 (by rfl) ?_; refine wl (by rfl) (s_ld (v := .int .i64 10) HS.out 1 (by rfl) (by rfl) (by rfl) (by kernel_rfl) (by exact HK0.out (.slice As r.sb.length cs') (.slice Ab r.bb.length cb')) ?_))
    | (refine atd 41 (by rfl) ?_; refine wl (by rfl) (s_ld (v := .int .i64 10) HS.out 1 (by rfl) (by rfl) (by rfl) (by kernel_rfl) (by exact HK0.out (.slice As r.sb.length cs') (.slice Ab r.bb.length cb')) ?_))
    | (refine atd 51 (by rfl) ?_; refine wl (by rfl) (s_ld (v := .int .i64 10) HS.out 1 (by rfl) (by rfl) (by rfl) (by kernel_rfl) (by exact HK0.out (.slice As r.sb.length cs') (.slice Ab r.bb.length cb')) ?_)))
  go_ret2
  exact ⟨_, rfl, by rw [← HQ.out]; exact HS.out.give 0 rfl⟩
end
section
open Go Go.RowKit Go.Proofs
attribute [local irreducible] Calls
set_option maxHeartbeats 1000000 in
set_option maxRecDepth 100000 in
theorem form50k (r : Req) (As Ab : Option Addr) (cs' cb' : Nat) (w : World) (hr : r.ok) (hs : HB w (.slice As r.sb.length cs') r.sb) (hb : HB w (.slice Ab r.bb.length cb') r.bb) (hk : r.k = 11) (hl1 : r.sb.length ≤ 1000000) (hl2 : r.bb.length ≤ 1000000) :
    Calls Try.prog 50 #[.agg (rcs r (.slice As r.sb.length cs') (.slice Ab r.bb.length cb')).toArray] w fun e w' => ∃ v', e = .returned (.tuple #[v', .bool true]) ∧ New w w' (Row v' 5 1 (encQ r).length (bs (encQ r))) := by
  have HS := Lib.hid (((St.start w).addF hb.away0).addF hs.away0)
  have HR := Lib.hid hr; have HTX := Lib.hid hr.tx; have HHA := Lib.hid hr.ha; have HLS := Lib.hid hl1
  have hn1 := hr.n; have hn2 := hr.h; have hn3 := hr.m
  have hco : compact r.sb.length ≤ 9 := by unfold compact; repeat' split
                                           all_goals simp
  have HCO := Lib.hid hco
  have HK0 := Lib.hid (show ∀ s b, (rcs r s b)[0]? = some (.int .i64 11) from fun s b => by rw [rcs_0, hk])
  have hq : [11] = encQ r := by
    rw [encQ_cons (kb := 11) hk (f := 0) (by rw [hk]; rfl) (l := []) (by simp [encF])]
    try simp
  have HQ := Lib.hid hq
  clear hb hs hr hk hq
  go_enter Try.func50, Try.ntmps50
  go_wp2_with (first
    | (refine atd 1 (by rfl) ?_; refine wl (by rfl) (s_bx (l := rcs r (.slice As r.sb.length cs') (.slice Ab r.bb.length cb')) HS.out (by rfl) (by rfl) ?_); intro b1 Wn hS; clear HS; have HS := Lib.hid hS; clear hS)
    | (refine atd 6 (by rfl) ?_; refine wl (by rfl) (s_ld (v := .int .i64 11) HS.out 0 (by rfl) (by rfl) (by rfl) (by kernel_rfl) (by exact HK0.out (.slice As r.sb.length cs') (.slice Ab r.bb.length cb')) ?_))
    | (refine atd 10 (by rfl) ?_; refine wl (by rfl) (s_ld (v := .int .i64 11) HS.out 0 (by rfl) (by rfl) (by rfl) (by kernel_rfl) (by exact HK0.out (.slice As r.sb.length cs') (.slice Ab r.bb.length cb')) ?_))
    | (refine atd 14 (by rfl) ?_; refine wl (by rfl) (s_ld (v := .int .i64 11) HS.out 0 (by rfl) (by rfl) (by rfl) (by kernel_rfl) (by exact HK0.out (.slice As r.sb.length cs') (.slice Ab r.bb.length cb')) ?_))
    | (refine atd 16 (by rfl) ?_; refine wl (by rfl) (s_bs (E := 5) (z := (.int .u8 0)) HS.out 1 1 (bs [11]) (by rfl) Try.underlying22 (by kernel_rfl) (by rfl) (by decide) (by decide) (by kernel_rfl) (by rfl) (by decide) ?_); intro b16 Wn hS; clear HS; have HS := Lib.hid hS; clear hS)
    | (refine atd 18 (by rfl) ?_; refine wl (by rfl) (s_ld (v := .int .i64 11) HS.out 1 (by rfl) (by rfl) (by rfl) (by kernel_rfl) (by exact HK0.out (.slice As r.sb.length cs') (.slice Ab r.bb.length cb')) ?_))
    | (refine atd 22 (by rfl) ?_; refine wl (by rfl) (s_ld (v := .int .i64 11) HS.out 1 (by rfl) (by rfl) (by rfl) (by kernel_rfl) (by exact HK0.out (.slice As r.sb.length cs') (.slice Ab r.bb.length cb')) ?_))
    | (refine atd 37 (by rfl) ?_; refine wl (by rfl) (s_ld (v := .int .i64 11) HS.out 1 (by rfl) (by rfl) (by rfl) (by kernel_rfl) (by exact HK0.out (.slice As r.sb.length cs') (.slice Ab r.bb.length cb')) ?_))
    | (refine atd 41 (by rfl) ?_; refine wl (by rfl) (s_ld (v := .int .i64 11) HS.out 1 (by rfl) (by rfl) (by rfl) (by kernel_rfl) (by exact HK0.out (.slice As r.sb.length cs') (.slice Ab r.bb.length cb')) ?_))
    | (refine atd 51 (by rfl) ?_; refine wl (by rfl) (s_ld (v := .int .i64 11) HS.out 1 (by rfl) (by rfl) (by rfl) (by kernel_rfl) (by exact HK0.out (.slice As r.sb.length cs') (.slice Ab r.bb.length cb')) ?_)))
  go_ret2
  exact ⟨_, rfl, by rw [← HQ.out]; exact HS.out.give 0 rfl⟩
end
end Go.Proofs.Ytlpklbpaknemaaa
