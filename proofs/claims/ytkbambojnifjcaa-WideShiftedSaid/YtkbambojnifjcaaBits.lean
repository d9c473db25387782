/- Contracts and words that the laws stand on (Bits). -/
import Derived.Lib.BitFns
import Derived.Test.YtkbambojnifjcaaLaw
import Derived.Test.YtkbambojnifjcaaSt
set_option linter.unusedVariables false
set_option linter.unusedSimpArgs false
namespace Go.Proofs.Ytkbambojnifjcaa
section
open Go Go.RowKit Go.Proofs
theorem z3 : zeroIs Try.prog 3 (.int .i64 0) := by unfold zeroIs; kernel_rfl
/-- Bit i of n. -/
def bitN (n i : Nat) : Nat := n / 2 ^ i % 2
/-- Bits as cells: the first k, then none. -/
def bitsV (f : Nat → Nat) (k m : Nat) : List Value := (List.range m).map fun i => .int .i64 ((if i < k then f i else 0 : Nat) : Int)
theorem bitsV_zero (f : Nat → Nat) (m : Nat) : bitsV f 0 m = List.replicate m (.int .i64 0) := by
  unfold bitsV; apply List.ext_getElem <;> simp
theorem bitsV_len (f : Nat → Nat) (k m : Nat) : (bitsV f k m).length = m := by simp [bitsV]
theorem bitsV_set (f : Nat → Nat) (k m : Nat) : (bitsV f k m).set k (.int .i64 (f k : Nat)) = bitsV f (k + 1) m := by
  apply List.ext_getElem?
  intro i
  by_cases hi : i < m
  · by_cases hk : k = i
    · subst hk; rw [List.getElem?_set_self (by rw [bitsV_len]; exact hi)]; simp [bitsV, hi]
    · rw [List.getElem?_set_ne hk]
      simp only [bitsV, List.getElem?_map, List.getElem?_range hi, Option.map_some]
      have : (i < k) ↔ (i < k + 1) := by omega
      simp only [this]
  · rw [List.getElem?_eq_none (by simp [bitsV_len]; omega), List.getElem?_eq_none (by simp [bitsV_len]; omega)]
theorem wk_bit (n i : Nat) (hi : i < 256) : wk n (i / 64) / 2 ^ (i % 64) % 2 = bitN n i := by
  unfold wk bitN
  have hp : pw (i / 64) = 2 ^ (64 * (i / 64)) := by
    have : i / 64 = 0 ∨ i / 64 = 1 ∨ i / 64 = 2 ∨ i / 64 = 3 := by omega
    rcases this with h | h | h | h <;> rw [h] <;> rfl
  have e : i = 64 * (i / 64) + i % 64 := by omega
  rw [hp, show 18446744073709551616 = 2 ^ 64 by rfl]
  conv => rhs; rw [e, Nat.pow_add, ← Nat.div_div_eq_div_mul]
  generalize n / 2 ^ (64 * (i / 64)) = m
  have hr : i % 64 < 64 := Nat.mod_lt _ (by decide)
  generalize i % 64 = r at *
  have h1 : m % 2 ^ 64 / 2 ^ r = m / 2 ^ r % 2 ^ (64 - r) := by
    rw [show 2 ^ 64 = 2 ^ r * 2 ^ (64 - r) by rw [← Nat.pow_add]; congr 1; omega, Nat.mod_mul_right_div_self]
  rw [h1, Nat.mod_mod_of_dvd _ ⟨2 ^ (64 - r - 1), by rw [← Nat.pow_succ']; congr 1; omega⟩]
theorem bit_val (x r : Nat) (hx : x < 18446744073709551616) : wrap64 (bits BinOp.and IntKind.u64 ((x : Int) / 2 ^ r) 1) = ((x / 2 ^ r % 2 : Nat) : Int) := by
  have h1 : ((x : Int) / 2 ^ r) = ((x / 2 ^ r : Nat) : Int) := by push_cast; rfl
  have h2 : x / 2 ^ r < 18446744073709551616 := Nat.lt_of_le_of_lt (Nat.div_le_self _ _) hx
  rw [h1]
  generalize x / 2 ^ r = y at *
  have := u64_and_nat y 1 h2 (by decide)
  rw [show (1 : Nat) = 2 ^ 1 - 1 from rfl, Nat.and_two_pow_sub_one_eq_mod] at this
  rw [show (1 : Int) = ((2 ^ 1 - 1 : Nat) : Int) from rfl, this]
  unfold wrap64
  omega
attribute [local irreducible] wc pw bitsV
set_option maxHeartbeats 1000000 in
set_option maxRecDepth 100000 in
theorem bits33 (n : Nat) (w : World) :
    Calls Try.prog 33 #[.agg (wc n)] w fun e w' => ∃ b, e = .returned (.slice (some ⟨b, 0, none⟩) 256 256) ∧ New w w' (Blk b (bitsV (bitN n) 256 256) 3) := by
  have HS := Lib.hid (St.start w)
  go_enter Try.func33, Try.ntmps33
  go_wp2_with (first
    | (refine wl (by rfl) (s_bx HS.out (by rfl) (by rfl) ?_); intro b1 W1 hS; clear HS; have HS := Lib.hid hS; clear hS)
    | (refine wl (by rfl) (s_mk (k := 8) HS.out 256 (by rfl) (by rfl) (by rfl) Try.underlying54 z3 (by rfl) (by kernel_rfl) (by decide) (by decide) ?_); intro b2 W2 hS; clear HS; have HS := Lib.hid hS; clear hS))
  go_loopw [4] (fun s4 W => ∃ k : Nat, k ≤ 256 ∧ s4 = .int .i64 k ∧ St w W [Blk b2 (bitsV (bitN n) k 256) 3, Blk b1 (wc n).toList 24] []) (fun s4 _ => 256 - (intOf s4).toNat)
  case atStart => exact ⟨0, by omega, rfl, by rw [bitsV_zero]; exact HS.out⟩
  case round =>
    clear HS
    obtain ⟨k, hk, rfl, hS⟩ := hrel
    have HS := Lib.hid hS
    clear hS
    by_cases hlt : k < 256
    · have ki0 : (0 : Int) ≤ (k : Int) := by omega
      have ki1 : (k : Int) < 256 := by omega
      have kq0 : (0 : Int) ≤ (k : Int) / 64 := by omega
      have kq1 : (k : Int) / 64 < 4 := by omega
      have hv : (wc n).toList[k / 64]? = some (.int .u64 (wk n (k / 64) : Nat)) := by rw [Array.getElem?_toList]; exact wc_get n _ (by omega)
      have hb := wk_bit n k hlt
      obtain ⟨x, hx⟩ : ∃ x, x = wk n (k / 64) := ⟨_, rfl⟩
      have hxl := wk_lt n (k / 64)
      rw [← hx] at hv hb hxl
      have HV := Lib.hid hv; have HBT := Lib.hid hb
      clear hv hb hx
      have hval : wrap64 (bits BinOp.and IntKind.u64 (↑x / 2 ^ (k % 64)) 1) = ((bitN n k : Nat) : Int) := by
        rw [← HBT.out]; exact bit_val x _ hxl
      have HVAL := Lib.hid hval
      clear hval
      go_wp2_with (first
        | (refine wl (by rfl) (s_ld HS.out 1 (by rfl) (by rfl) (by rfl) (by kernel_rfl) HV.out ?_))
        | (refine wl (by rfl) (s_st (v := .int .i64 (bitN n k : Nat)) HS.out 0 (by rfl) (by rfl) (by rfl) (by kernel_rfl) (by exact congrArg (Value.int .i64) HVAL.out) (by rfl) (by rw [bitsV_len]; exact hlt) ?_); intro W3 hS; have HS3 := Lib.hid hS; clear hS))
      go_roundw
      case rel => exact ⟨k + 1, by omega, by go_num, by rw [← bitsV_set]; exact HS3.out⟩
      case measure => simp [intOf]; omega
    · obtain rfl : k = 256 := by omega
      go_wp2_with fail
      go_ret
      exact ⟨b2, rfl, HS.out.give 0 rfl⟩
end
section
open Go Go.RowKit Go.Proofs
/-! Numbers as bits. -/
theorem bitN_lt (n i : Nat) : bitN n i < 2 := Nat.mod_lt _ (by decide)
theorem bitN_tb (n i : Nat) : bitN n i = (n.testBit i).toNat := by
  unfold bitN
  rw [Nat.testBit_eq_decide_div_mod_eq]
  have : n / 2 ^ i % 2 = 0 ∨ n / 2 ^ i % 2 = 1 := by omega
  rcases this with h | h <;> simp [h]
theorem bitN_add_self (X j d : Nat) (h : bitN X j = 0) (hd : d ≤ 1) : bitN (X + d * 2 ^ j) j = d := by
  unfold bitN at *
  rw [Nat.add_mul_div_right _ _ (Nat.two_pow_pos j)]
  omega
theorem bitN_add_other (X j d i : Nat) (h : bitN X j = 0) (hd : d ≤ 1) (hij : i ≠ j) : bitN (X + d * 2 ^ j) i = bitN X i := by
  have hd' : d = 0 ∨ d = 1 := by omega
  rcases hd' with rfl | rfl
  · simp
  rw [Nat.one_mul]
  unfold bitN at *
  by_cases hlt : i < j
  · rw [show 2 ^ j = 2 ^ (j - i - 1) * 2 * 2 ^ i by rw [← Nat.pow_succ, ← Nat.pow_add]; congr 1; omega, Nat.add_mul_div_right _ _ (Nat.two_pow_pos i)]
    omega
  · have e : 2 ^ i = 2 ^ j * 2 * 2 ^ (i - j - 1) := by rw [← Nat.pow_succ, ← Nat.pow_add]; congr 1; omega
    rw [e, ← Nat.div_div_eq_div_mul, ← Nat.div_div_eq_div_mul, ← Nat.div_div_eq_div_mul, ← Nat.div_div_eq_div_mul, Nat.add_div_right _ (Nat.two_pow_pos j)]
    congr 2
    omega
theorem bitN_small (X j : Nat) (h : X < 2 ^ j) : bitN X j = 0 := by unfold bitN; rw [Nat.div_eq_of_lt h]
theorem bitN_mod (X k j : Nat) (h : j < k) : bitN (X % 2 ^ k) j = bitN X j := by
  rw [bitN_tb, bitN_tb, Nat.testBit_mod_two_pow]; simp [h]
theorem bitN_mod_ge (X k j : Nat) (h : k ≤ j) : bitN (X % 2 ^ k) j = 0 := by
  rw [bitN_tb, Nat.testBit_mod_two_pow]; simp [Nat.not_lt.2 h]
theorem mod_succ (X k : Nat) : X % 2 ^ (k + 1) = X % 2 ^ k + bitN X k * 2 ^ k := by
  unfold bitN; rw [Nat.pow_succ, Nat.mod_mul, Nat.mul_comm (2 ^ k)]
theorem bitN_div (X k j : Nat) : bitN (X / 2 ^ k) j = bitN X (k + j) := by
  unfold bitN; rw [Nat.div_div_eq_div_mul, ← Nat.pow_add]
/-- The bits of X as cells, M of them. -/
def bl (X M : Nat) : List Value := (List.range M).map fun i => .int .i64 ((bitN X i : Nat) : Int)
theorem bl_len (X M : Nat) : (bl X M).length = M := by simp [bl]
theorem bl_get (X M i : Nat) (h : i < M) : (bl X M)[i]? = some (.int .i64 (bitN X i : Nat)) := by simp [bl, h]
theorem bl_zero (M : Nat) : List.replicate M (Value.int .i64 0) = bl 0 M := by
  unfold bl; apply List.ext_getElem <;> simp [bitN]
theorem bl_of (n : Nat) : bitsV (bitN n) 256 256 = bl n 256 := by
  unfold bl bitsV
  apply List.map_congr_left
  intro i hi
  rw [if_pos (List.mem_range.1 hi)]
theorem bl_set (X M j d : Nat) (h : bitN X j = 0) (hd : d ≤ 1) : (bl X M).set j (.int .i64 (d : Nat)) = bl (X + d * 2 ^ j) M := by
  apply List.ext_getElem?
  intro i
  by_cases hi : i < M
  · by_cases hk : j = i
    · subst hk; rw [List.getElem?_set_self (by rw [bl_len]; exact hi), bl_get _ _ _ hi, bitN_add_self X j d h hd]
    · rw [List.getElem?_set_ne hk, bl_get _ _ _ hi, bl_get _ _ _ hi, bitN_add_other X j d i h hd (fun e => hk e.symm)]
  · rw [List.getElem?_eq_none (by simp [bl_len]; omega), List.getElem?_eq_none (by simp [bl_len]; omega)]
theorem bl_congr (X Y M : Nat) (h : ∀ i, i < M → bitN X i = bitN Y i) : bl X M = bl Y M := by
  unfold bl
  apply List.map_congr_left
  intro i hi
  rw [h i (List.mem_range.1 hi)]
theorem bl_drop (X M k : Nat) : (bl X M).drop k = bl (X / 2 ^ k) (M - k) := by
  apply List.ext_getElem?
  intro i
  rw [List.getElem?_drop]
  by_cases hi : k + i < M
  · rw [bl_get _ _ _ hi, bl_get _ _ _ (by omega), bitN_div]
  · rw [List.getElem?_eq_none (by simp [bl_len]; omega), List.getElem?_eq_none (by simp [bl_len]; omega)]
/-- The bits of X lie in block b, from cell q on, m of them. -/
def BitsAt (b q m X : Nat) (W : World) : Prop := ∀ i, i < m → W.cell? ⟨b, q + i, none⟩ = some (.int .i64 ((bitN X i : Nat) : Int))
theorem BitsAt.away {b q m X : Nat} {W : World} {K : Nat → Prop} (h : BitsAt b q m X W) (hk : ¬ K b) : Away K (BitsAt b q m X) W := by
  intro W' hs i hi
  exact hs.cell hk (h i hi)
theorem BitsAt.below {b q m X : Nat} {W W' : World} (h : BitsAt b q m X W) (hb : Below W.heap.size W W') : BitsAt b q m X W' := fun i hi =>
  (World.cell?_of_block (hb.block b (World.block_lt_of_cell? W _ (h i hi)))).trans (h i hi)
theorem St.bits {w W : World} {L : List Res} {Fs : List (World → Prop)} (h : St w W L Fs) (i : Nat) {b X M : Nat} {T : TypeId} (hi : L[i]? = some (Blk b (bl X M) T)) : BitsAt b 0 M X W := fun j hj => by
  rw [Nat.zero_add]; exact h.cell hi (bl_get X M j hj)
theorem St.startF (w : World) {F : World → Prop} (h : Away (fun _ => False) F w) : St w w [] [F] := (St.start w).addF (h.mono fun k hk => by obtain ⟨_, hr, _⟩ := hk; cases hr)
/-! a whole number's block -/
section
variable {w W : World} {L : List Res} {Fs : List (World → Prop)} {o : Oper} {a : Act} {K : Act → World → Prop} {Q : Exit → Act → World → Prop} {b n m : Nat} {T : TypeId} {x y : Operand}
theorem z24 : zeroIs Try.prog 24 (.agg #[.int .u64 0, .int .u64 0, .int .u64 0, .int .u64 0]) := by unfold zeroIs; kernel_rfl
theorem al24 (h : St w W (Blk b [.int .u64 0, .int .u64 0, .int .u64 0, .int .u64 0] T :: L) Fs) : St w W (Blk b (wc 0).toList T :: L) Fs := h
theorem ag24 : aggr Try.prog 24 4 = true := by kernel_rfl
theorem wc_len (n : Nat) : (wc n).toList.length = 4 := rfl
theorem ld24 (hS : St w W L Fs) (i : Nat) (ho : o.op = .load 24 x) (hx : a.eval x = .pointer (some ⟨b, 0, none⟩)) (hi : L[i]? = some (Blk b (wc n).toList T)) (h : K (a.put o.dst (.agg (wc n))) W) : o.wp Try.prog a W K Q :=
  s_lda hS i 4 ho hx hi ag24 (by rw [List.drop_zero, List.take_of_length_le (by rw [wc_len]; omega)]) (wc_len n) h
theorem st24 (hS : St w W L Fs) (i m : Nat) (ho : o.op = .store 24 x y) (hx : a.eval x = .pointer (some ⟨b, 0, none⟩)) (hi : L[i]? = some (Blk b (wc n).toList T)) (hy : a.eval y = .agg (wc m)) (h : ∀ W', St w W' (L.set i (Blk b (wc m).toList T)) Fs → K (a.put o.dst undef) W') : o.wp Try.prog a W K Q :=
  s_sta (cs := (wc m).toList) hS i 4 ho hx hi ag24 (by rw [hy]) (wc_len m) (fun v hv => Array.all_eq_true_iff_forall_mem.1 (wc_one m) v (by simpa using hv)) (by rw [wc_len]; omega) (fun W' hS' => h W' (by
    have e : splice (wc n).toList 0 (wc m).toList = (wc m).toList := by
      unfold splice
      rw [List.take_zero, List.drop_eq_nil_of_le (by rw [wc_len, wc_len]; omega), List.append_nil]
      rfl
    rwa [e] at hS'))
theorem ldw (hS : St w W L Fs) (i : Nat) (ho : o.op = .load 24 x) (hx : a.eval x = .pointer (some ⟨b, 0, none⟩)) (hi : L[i]? = some (Blk b (wc n).toList T)) : (execOp a.eval o).run Try.prog W = .ok (.value (.agg (wc n))) W :=
  run_lda (cs := (wc n).toList) ag24 ho hx (hS.range hi (by rw [List.drop_zero, List.take_of_length_le (Nat.le_refl _)])) (wc_len n)
theorem bx24 (hS : St w W L Fs) (m : Nat) (ho : o.op = .box 24 x) (hx : a.eval x = .agg (wc m)) (h : ∀ b W', St w W' (Blk b (wc m).toList 24 :: L) Fs → K (a.put o.dst (.pointer (some ⟨b, 0, none⟩))) W') : o.wp Try.prog a W K Q :=
  s_bx (l := (wc m).toList) hS ho (by rw [hx]; rfl) h
end
theorem wc_getL (n k : Nat) (hk : k < 4) : (wc n).toList[k]? = some (.int .u64 (wk n k : Nat)) := by rw [Array.getElem?_toList]; exact wc_get n k hk
theorem wc_putL (p k d : Nat) (hk : k < 4) (hd : d < 18446744073709551616) : (wc p).toList.set k (.int .u64 (d : Nat)) = (wc (p - wk p k * pw k + d * pw k)).toList := by
  rw [← wc_put p k d hk hd]; simp
/-- One bit of a sum. -/
theorem add_bit (X Y k : Nat) : (bitN X k + bitN Y k + (X % 2 ^ k + Y % 2 ^ k) / 2 ^ k) % 2 = bitN (X + Y) k ∧ (bitN X k + bitN Y k + (X % 2 ^ k + Y % 2 ^ k) / 2 ^ k) / 2 = (X % 2 ^ (k + 1) + Y % 2 ^ (k + 1)) / 2 ^ (k + 1) ∧ (X % 2 ^ k + Y % 2 ^ k) / 2 ^ k ≤ 1 := by
  have hp := Nat.two_pow_pos k
  have e1 : X % 2 ^ (k + 1) + Y % 2 ^ (k + 1) = X % 2 ^ k + Y % 2 ^ k + (bitN X k + bitN Y k) * 2 ^ k := by rw [mod_succ, mod_succ, Nat.add_mul]; omega
  have e2 : (X % 2 ^ (k + 1) + Y % 2 ^ (k + 1)) / 2 ^ k = (X % 2 ^ k + Y % 2 ^ k) / 2 ^ k + (bitN X k + bitN Y k) := by rw [e1, Nat.add_mul_div_right _ _ hp]
  have h1 : X % 2 ^ k < 2 ^ k := Nat.mod_lt _ hp
  have h2 : Y % 2 ^ k < 2 ^ k := Nat.mod_lt _ hp
  refine ⟨?_, ?_, ?_⟩
  · have e3 : bitN (X + Y) k = bitN (X % 2 ^ (k + 1) + Y % 2 ^ (k + 1)) k := by
      rw [← bitN_mod (X + Y) (k + 1) k (by omega), Nat.add_mod, bitN_mod _ (k + 1) k (by omega)]
    rw [e3]; show _ = (X % 2 ^ (k + 1) + Y % 2 ^ (k + 1)) / 2 ^ k % 2; rw [e2]; congr 1; omega
  · rw [Nat.pow_succ 2 k, ← Nat.div_div_eq_div_mul, ← Nat.pow_succ 2 k, e2]; congr 1; omega
  · rw [← Nat.lt_succ_iff, Nat.div_lt_iff_lt_mul hp]; omega
theorem pow63 (k : Nat) : 2 ^ (k % 64) < 18446744073709551616 := by
  have : 2 ^ (k % 64) < 2 ^ 64 := Nat.pow_lt_pow_right (by decide) (Nat.mod_lt _ (by decide))
  exact this
theorem wrap_pow (k : Nat) : IntKind.u64.wrap ((2 : Int) ^ (k % 64)) = ((2 ^ (k % 64) : Nat) : Int) := by
  have h := pow63 k
  have e : ((2 : Int) ^ (k % 64)) = ((2 ^ (k % 64) : Nat) : Int) := by push_cast; rfl
  rw [e, IntKind.wrap_u64]
  generalize 2 ^ (k % 64) = y at *
  omega
theorem add_pow (x k : Nat) (h : x + 2 ^ (k % 64) < 18446744073709551616) : IntKind.u64.wrap ((x : Int) + IntKind.u64.wrap (2 ^ (k % 64))) = ((x + 2 ^ (k % 64) : Nat) : Int) := by
  rw [wrap_pow, IntKind.wrap_u64]
  generalize 2 ^ (k % 64) = y at *
  omega
/-- Bits are gathered: word k/64. -/
theorem num_word (X k : Nat) (hk : k < 256) : wk (X % 2 ^ k) (k / 64) + 2 ^ (k % 64) < 18446744073709551616 ∧ X % 2 ^ k - wk (X % 2 ^ k) (k / 64) * pw (k / 64) + (wk (X % 2 ^ k) (k / 64) + 2 ^ (k % 64)) * pw (k / 64) = X % 2 ^ k + 2 ^ k := by
  have hp : pw (k / 64) = 2 ^ (64 * (k / 64)) := by
    have : k / 64 = 0 ∨ k / 64 = 1 ∨ k / 64 = 2 ∨ k / 64 = 3 := by omega
    rcases this with h | h | h | h <;> rw [h] <;> rfl
  have e : 2 ^ k = 2 ^ (k % 64) * 2 ^ (64 * (k / 64)) := by rw [← Nat.pow_add]; congr 1; omega
  have hm : X % 2 ^ k < 2 ^ k := Nat.mod_lt _ (Nat.two_pow_pos k)
  unfold wk
  rw [hp]
  generalize X % 2 ^ k = Y at *
  rw [e] at hm ⊢
  have hr : k % 64 < 64 := Nat.mod_lt _ (by decide)
  have hq : 2 ^ (k % 64) ≤ 2 ^ 63 := Nat.pow_le_pow_right (by decide) (by omega)
  generalize hP : 2 ^ (64 * (k / 64)) = P at *
  have hP0 : 0 < P := by rw [← hP]; exact Nat.two_pow_pos _
  generalize 2 ^ (k % 64) = R at *
  have h1 : Y / P < R := (Nat.div_lt_iff_lt_mul hP0).2 hm
  have h2 : Y / P % 18446744073709551616 = Y / P := Nat.mod_eq_of_lt (by omega)
  rw [h2]
  refine ⟨by omega, ?_⟩
  have h3 : Y / P * P ≤ Y := Nat.div_mul_le_self Y P
  rw [Nat.add_mul]
  omega
end
section
open Go Go.RowKit Go.Proofs
theorem M4_pow : M4 = 2 ^ 256 := by decide +kernel
theorem bitN_not (n i : Nat) (hn : n < M4) (hi : i < 256) : bitN (M4 - 1 - n) i = 1 - bitN n i := by
  rw [bitN_tb, bitN_tb]
  rw [M4_pow] at *
  rw [show 2 ^ 256 - 1 - n = 2 ^ 256 - (n + 1) by omega, Nat.testBit_two_pow_sub_succ hn]
  rw [decide_eq_true hi]
  cases n.testBit i <;> rfl
/-- Cells of ints. -/
def fl (f : Nat → Nat) (M : Nat) : List Value := (List.range M).map fun i => .int .i64 ((f i : Nat) : Int)
theorem fl_len (f : Nat → Nat) (M : Nat) : (fl f M).length = M := by simp [fl]
theorem fl_get (f : Nat → Nat) (M i : Nat) (h : i < M) : (fl f M)[i]? = some (.int .i64 (f i : Nat)) := by simp [fl, h]
theorem fl_set (f : Nat → Nat) (M j d : Nat) : (fl f M).set j (.int .i64 (d : Nat)) = fl (fun i => if i = j then d else f i) M := by
  apply List.ext_getElem?
  intro i
  by_cases hi : i < M
  · by_cases hk : j = i
    · subst hk; rw [List.getElem?_set_self (by rw [fl_len]; exact hi), fl_get _ _ _ hi, if_pos rfl]
    · rw [List.getElem?_set_ne hk, fl_get _ _ _ hi, fl_get _ _ _ hi, if_neg (fun e => hk e.symm)]
  · rw [List.getElem?_eq_none (by simp [fl_len]; omega), List.getElem?_eq_none (by simp [fl_len]; omega)]
theorem fl_congr (f g : Nat → Nat) (M : Nat) (h : ∀ i, i < M → f i = g i) : fl f M = fl g M := by
  unfold fl
  apply List.map_congr_left
  intro i hi
  rw [h i (List.mem_range.1 hi)]
theorem bl_fl (X M : Nat) : bl X M = fl (bitN X) M := rfl
/-- A shift to the left. -/
def shlW (a : Nat) (n : Int) : Nat := if n ≤ 0 then a else a * 2 ^ n.toNat % M4
def shrW (a : Nat) (n : Int) : Nat := if n ≤ 0 then a else a / 2 ^ n.toNat
theorem shlW_lt (a : Nat) (n : Int) (h : a < M4) : shlW a n < M4 := by unfold shlW; split; exact h; exact Nat.mod_lt _ (by decide)
theorem shrW_lt (a : Nat) (n : Int) (h : a < M4) : shrW a n < M4 := by unfold shrW; split; exact h; exact Nat.lt_of_le_of_lt (Nat.div_le_self _ _) h
theorem shl_bit (a N i : Nat) (hN : N ≤ i) (hi : i < 256) : bitN (a * 2 ^ N % M4) i = bitN a (i - N) := by
  rw [M4_pow, bitN_mod _ _ _ hi]
  unfold bitN
  rw [show 2 ^ i = 2 ^ N * 2 ^ (i - N) by rw [← Nat.pow_add]; congr 1; omega, ← Nat.div_div_eq_div_mul, Nat.mul_div_cancel _ (Nat.two_pow_pos N)]
theorem shl_low (a N : Nat) (hN : N ≤ 256) : a * 2 ^ N % M4 / 2 ^ N * 2 ^ N = a * 2 ^ N % M4 := by
  rw [M4_pow]
  refine Nat.div_mul_cancel ?_
  rw [show (2 : Nat) ^ 256 = 2 ^ N * 2 ^ (256 - N) by rw [← Nat.pow_add]; congr 1; omega, Nat.mul_comm a, Nat.mul_mod_mul_left]
  exact Nat.dvd_mul_right _ _
theorem shl_big (a N : Nat) (hN : 256 ≤ N) : a * 2 ^ N % M4 = 0 := by
  rw [M4_pow, show N = 256 + (N - 256) by omega, Nat.pow_add, Nat.mul_left_comm, Nat.mul_mod_right]
theorem high_step (Y i : Nat) : bitN (Y / 2 ^ (i + 1) * 2 ^ (i + 1)) i = 0 ∧ Y / 2 ^ (i + 1) * 2 ^ (i + 1) + bitN Y i * 2 ^ i = Y / 2 ^ i * 2 ^ i := by
  constructor
  · unfold bitN
    rw [Nat.pow_succ, ← Nat.mul_assoc, Nat.mul_right_comm, Nat.mul_div_cancel _ (Nat.two_pow_pos i)]
    omega
  · unfold bitN
    rw [Nat.pow_succ, ← Nat.div_div_eq_div_mul]
    generalize Y / 2 ^ i = Z
    have : Z = Z / 2 * 2 + Z % 2 := by omega
    conv => rhs; rw [this, Nat.add_mul]
    rw [Nat.mul_assoc, Nat.mul_comm 2 (2 ^ i)]
theorem shr_bit (a N i : Nat) : bitN (a / 2 ^ N) i = bitN a (i + N) := by rw [bitN_div, Nat.add_comm]
theorem shr_big (a N : Nat) (ha : a < M4) (hN : 256 ≤ N) : a / 2 ^ N = 0 := by
  rw [M4_pow] at ha
  exact Nat.div_eq_of_lt (Nat.lt_of_lt_of_le ha (Nat.pow_le_pow_right (by decide) hN))
theorem shr_top (a N : Nat) (ha : a < M4) (hN : N ≤ 256) : a / 2 ^ N % 2 ^ (256 - N) = a / 2 ^ N := by
  rw [M4_pow] at ha
  refine Nat.mod_eq_of_lt ?_
  rw [Nat.div_lt_iff_lt_mul (Nat.two_pow_pos N), ← Nat.pow_add]
  rwa [show 256 - N + N = 256 by omega]
/-- How many bits a number has. -/
def blen (a : Nat) : Nat := if a = 0 then 0 else a.log2 + 1
theorem blen_lt (a : Nat) : a < 2 ^ blen a := by
  unfold blen
  split
  · rename_i h; subst h; decide
  · exact Nat.lt_log2_self
theorem blen_eq (a n : Nat) (h : a < 2 ^ n) (h2 : n = 0 ∨ bitN a (n - 1) = 1) : blen a = n := by
  unfold blen
  rcases h2 with rfl | h2
  · rw [Nat.pow_zero] at h
    rw [if_pos (by omega)]
  · have h3 : a / 2 ^ (n - 1) ≠ 0 := by unfold bitN at h2; omega
    have h4 : 2 ^ (n - 1) ≤ a := by
      rcases Nat.lt_or_ge a (2 ^ (n - 1)) with h | h
      · exact absurd (Nat.div_eq_of_lt h) h3
      · exact h
    have hp := Nat.two_pow_pos (n - 1)
    rw [if_neg (by omega)]
    have hn : n ≠ 0 := by
      rintro rfl
      simp at h h4; omega
    have : a.log2 = n - 1 := by
      rw [Nat.log2_eq_iff (by omega)]
      refine ⟨h4, ?_⟩
      rwa [show n - 1 + 1 = n by omega]
    omega
theorem blen_le (a : Nat) (h : a < M4) : blen a ≤ 256 := by
  rcases Nat.lt_or_ge 256 (blen a) with h1 | h1
  · exfalso
    unfold blen at h1
    split at h1
    · omega
    · rename_i h0
      have := Nat.log2_self_le h0
      have h2 : 2 ^ 256 ≤ 2 ^ a.log2 := Nat.pow_le_pow_right (by decide) (by omega)
      rw [M4_pow] at h
      omega
  · exact h1
theorem lt_succ_bit (a n : Nat) (h : a < 2 ^ (n + 1)) (hb : bitN a n = 0) : a < 2 ^ n := by
  unfold bitN at hb
  have h1 : a / 2 ^ n < 2 := by rw [Nat.div_lt_iff_lt_mul (Nat.two_pow_pos n), Nat.mul_comm, ← Nat.pow_succ]; exact h
  have h2 : a / 2 ^ n = 0 := by generalize a / 2 ^ n = q at *; omega
  rcases Nat.lt_or_ge a (2 ^ n) with h3 | h3
  · exact h3
  · exfalso
    have := Nat.div_pos h3 (Nat.two_pow_pos n)
    omega
theorem div_bit (a i : Nat) : a / 2 ^ i = 2 * (a / 2 ^ (i + 1)) + bitN a i := by
  unfold bitN
  rw [Nat.pow_succ, ← Nat.div_div_eq_div_mul]
  omega
theorem cmp_bit (a b i : Nat) (h : a / 2 ^ (i + 1) = b / 2 ^ (i + 1)) (hl : bitN a i < bitN b i) : a < b := by
  have h1 := div_bit a i
  have h2 := div_bit b i
  rcases Nat.lt_or_ge a b with h3 | h3
  · exact h3
  · have := Nat.div_le_div_right (c := 2 ^ i) h3; omega
end
section
open Go Go.RowKit Go.Proofs
theorem pw_two (k : Nat) (hk : k < 5) : pw k = 2 ^ (64 * k) := by
  obtain rfl | rfl | rfl | rfl | rfl : k = 0 ∨ k = 1 ∨ k = 2 ∨ k = 3 ∨ k = 4 := by omega
  all_goals rfl
theorem or_add64 (a b r : Nat) (ha : a % 2 ^ r = 0) (hb : b < 2 ^ r) : a ||| b = a + b := by
  have e : a = 2 ^ r * (a / 2 ^ r) := by have := Nat.div_add_mod a (2 ^ r); omega
  conv => lhs; rw [e]
  rw [← Nat.two_pow_add_eq_or_of_lt hb (a / 2 ^ r), ← e]
/-- One word of a shift to the left by 64 q + r. -/
theorem shl_word (a q r k : Nat) (hq : q ≤ k) (hk : k < 4) (hr : r < 64) :
    wk (a * 2 ^ (64 * q + r)) k = (wk a (k - q) * 2 ^ r % 18446744073709551616) ||| (if q < k then wk a (k - q - 1) / 2 ^ (64 - r) else 0) := by
  have ek : pw k = pw q * pw (k - q) := by rw [pw_two k (by omega), pw_two q (by omega), pw_two (k - q) (by omega), ← Nat.pow_add]; congr 1; omega
  have e1 : a * 2 ^ (64 * q + r) / pw k = a * 2 ^ r / pw (k - q) := by
    rw [ek, ← Nat.div_div_eq_div_mul, Nat.pow_add, ← pw_two q (by omega), Nat.mul_comm (pw q), ← Nat.mul_assoc, Nat.mul_div_cancel _ (pw_pos q)]
  unfold wk
  rw [e1]
  have hW : (18446744073709551616 : Nat) = 2 ^ r * 2 ^ (64 - r) := by rw [← Nat.pow_add, show r + (64 - r) = 64 by omega]
  have hR0 := Nat.two_pow_pos r
  by_cases hlt : q < k
  · rw [if_pos hlt]
    obtain ⟨j, hj⟩ : ∃ j, k - q = j + 1 := ⟨k - q - 1, by omega⟩
    have hj1 : k - q - 1 = j := by omega
    rw [hj1, hj]
    have epj : pw (j + 1) = 18446744073709551616 * pw j := by rw [pw_two (j + 1) (by omega), pw_two j (by omega), show 64 * (j + 1) = 64 + 64 * j by omega, Nat.pow_add]
    -- a * 2^r / pw (j+1) = (a / pw j) * 2^r / 2^64 up to the rest
    have e2 : a * 2 ^ r / pw (j + 1) = a / pw (j + 1) * 2 ^ r + (a / pw j % 18446744073709551616) / 2 ^ (64 - r) := by
      have h1 : a * 2 ^ r / pw (j + 1) = a / pw j / 2 ^ (64 - r) := by
        rw [epj, hW, Nat.mul_comm a, Nat.mul_assoc, Nat.mul_div_mul_left _ _ hR0, Nat.div_div_eq_div_mul, Nat.mul_comm (pw j)]
      have h2 : a / pw (j + 1) = a / pw j / 18446744073709551616 := by rw [epj, Nat.mul_comm, Nat.div_div_eq_div_mul]
      rw [h1, h2]
      generalize a / pw j = z
      have hz : z = z / 18446744073709551616 * 18446744073709551616 + z % 18446744073709551616 := by omega
      conv => lhs; rw [hz]
      rw [show z / 18446744073709551616 * 18446744073709551616 = z / 18446744073709551616 * 2 ^ r * 2 ^ (64 - r) by rw [Nat.mul_assoc, ← hW], Nat.add_comm, Nat.add_mul_div_right _ _ (Nat.two_pow_pos _), Nat.add_comm]
    rw [e2]
    have hlo : a / pw j % 18446744073709551616 / 2 ^ (64 - r) < 2 ^ r := by
      rw [Nat.div_lt_iff_lt_mul (Nat.two_pow_pos _), ← hW]; exact Nat.mod_lt _ (by decide)
    generalize a / pw j % 18446744073709551616 / 2 ^ (64 - r) = lo at *
    generalize a / pw (j + 1) = y
    have h3 : y % 18446744073709551616 * 2 ^ r % 18446744073709551616 = y * 2 ^ r % 18446744073709551616 := by rw [Nat.mod_mul_mod]
    rw [h3]
    have h4 : y * 2 ^ r % 18446744073709551616 = 2 ^ r * (y % 2 ^ (64 - r)) := by rw [hW, Nat.mul_comm y, Nat.mul_mod_mul_left]
    rw [or_add64 _ _ r (by rw [h4, Nat.mul_mod_right]) hlo]
    rw [Nat.add_mod, Nat.mod_eq_of_lt (a := lo) (by have : 2 ^ r ≤ 2 ^ 64 := Nat.pow_le_pow_right (by decide) (by omega)
                                                    omega)]
    refine Nat.mod_eq_of_lt ?_
    rw [h4]
    have h5 : y % 2 ^ (64 - r) < 2 ^ (64 - r) := Nat.mod_lt _ (Nat.two_pow_pos _)
    have h6 : 2 ^ r * (y % 2 ^ (64 - r)) + 2 ^ r ≤ 2 ^ r * 2 ^ (64 - r) := by rw [← Nat.mul_succ]; exact Nat.mul_le_mul_left _ h5
    rw [← hW] at h6
    omega
  · rw [if_neg hlt, Nat.or_zero]
    obtain rfl : q = k := by omega
    rw [Nat.sub_self]
    simp only [pw, Nat.div_one]
    rw [Nat.mod_mul_mod]
/-- One word of a shift to the right by 64 q + r. -/
theorem shr_word (a q r k : Nat) (hq : k + q < 4) (hr : r < 64) (ha : a < M4) :
    wk (a / 2 ^ (64 * q + r)) k = (wk a (k + q) / 2 ^ r) ||| (if k + q + 1 < 4 then wk a (k + q + 1) * 2 ^ (64 - r) % 18446744073709551616 else 0) := by
  have hW : (18446744073709551616 : Nat) = 2 ^ r * 2 ^ (64 - r) := by rw [← Nat.pow_add, show r + (64 - r) = 64 by omega]
  have ek : pw (k + q) = pw q * pw k := by rw [pw_two (k + q) (by omega), pw_two q (by omega), pw_two k (by omega), ← Nat.pow_add]; congr 1; omega
  have e1 : a / 2 ^ (64 * q + r) / pw k = a / pw (k + q) / 2 ^ r := by
    rw [ek, Nat.pow_add, ← pw_two q (by omega), Nat.div_div_eq_div_mul, Nat.div_div_eq_div_mul]; congr 1
    rw [Nat.mul_assoc, Nat.mul_comm (2 ^ r), Nat.mul_assoc]
  unfold wk
  rw [e1]
  have epj : pw (k + q + 1) = pw (k + q) * 18446744073709551616 := by rw [pw_two (k + q + 1) (by omega), pw_two (k + q) (by omega), show 64 * (k + q + 1) = 64 * (k + q) + 64 by omega, Nat.pow_add]
  have h2 : a / pw (k + q + 1) = a / pw (k + q) / 18446744073709551616 := by rw [epj, Nat.div_div_eq_div_mul]
  have hz4 : ¬ k + q + 1 < 4 → a / pw (k + q + 1) = 0 := fun h => by
    have : k + q + 1 = 4 := by omega
    rw [this]; exact Nat.div_eq_of_lt ha
  rw [h2] at *
  generalize a / pw (k + q) = z at *
  have hR0 := Nat.two_pow_pos r
  have hlo : z % 18446744073709551616 / 2 ^ r < 2 ^ (64 - r) := by rw [Nat.div_lt_iff_lt_mul hR0, Nat.mul_comm, ← hW]; exact Nat.mod_lt _ (by decide)
  have e3 : z / 2 ^ r = z / 18446744073709551616 * 2 ^ (64 - r) + z % 18446744073709551616 / 2 ^ r := by
    have hz : z = z / 18446744073709551616 * 18446744073709551616 + z % 18446744073709551616 := by omega
    conv => lhs; rw [hz]
    rw [show z / 18446744073709551616 * 18446744073709551616 = z / 18446744073709551616 * 2 ^ (64 - r) * 2 ^ r by rw [Nat.mul_assoc, Nat.mul_comm (2 ^ (64 - r)), ← hW], Nat.add_comm, Nat.add_mul_div_right _ _ hR0, Nat.add_comm]
  rw [e3]
  generalize z % 18446744073709551616 / 2 ^ r = lo at *
  generalize z / 18446744073709551616 = y at *
  have key : (y * 2 ^ (64 - r) + lo) % 18446744073709551616 = lo ||| (y * 2 ^ (64 - r) % 18446744073709551616) := by
    have h4 : y * 2 ^ (64 - r) % 18446744073709551616 = 2 ^ (64 - r) * (y % 2 ^ r) := by rw [hW, Nat.mul_comm y, Nat.mul_comm (2 ^ r), Nat.mul_mod_mul_left]
    rw [Nat.or_comm, or_add64 _ _ (64 - r) (by rw [h4, Nat.mul_mod_right]) hlo]
    rw [Nat.add_mod, Nat.mod_eq_of_lt (a := lo) (by have : 2 ^ (64 - r) ≤ 2 ^ 64 := Nat.pow_le_pow_right (by decide) (by omega)
                                                    omega)]
    refine Nat.mod_eq_of_lt ?_
    rw [h4]
    have h5 : y % 2 ^ r < 2 ^ r := Nat.mod_lt _ hR0
    have h6 : 2 ^ (64 - r) * (y % 2 ^ r) + 2 ^ (64 - r) ≤ 2 ^ (64 - r) * 2 ^ r := by rw [← Nat.mul_succ]; exact Nat.mul_le_mul_left _ h5
    rw [Nat.mul_comm (2 ^ (64 - r)) (2 ^ r), ← hW] at h6
    omega
  by_cases hlt : k + q + 1 < 4
  · rw [if_pos hlt, key, Nat.mod_mul_mod]
  · rw [if_neg hlt, Nat.or_zero, key, hz4 hlt, Nat.zero_mul, Nat.zero_mod, Nat.or_zero]
theorem wc_setL (p k d : Nat) (hk : k < 4) (hp : p < pw k) (hd : d < 18446744073709551616) : (wc p).toList.set k (.int .u64 (d : Nat)) = (wc (p + d * pw k)).toList := by
  rw [← wc_set p k d hk hp hd]; simp
theorem mod_word (Y k : Nat) (hk : k < 4) : Y % pw k + wk Y k * pw k = Y % pw (k + 1) := by
  have e : pw (k + 1) = pw k * 18446744073709551616 := by rw [pw_two (k + 1) (by omega), pw_two k (by omega), show 64 * (k + 1) = 64 * k + 64 by omega, Nat.pow_add]
  rw [e, Nat.mod_mul, Nat.mul_comm (pw k)]
  rfl
theorem wrap_shl (x r : Nat) : IntKind.u64.wrap ((x : Int) * 2 ^ r) = ((x * 2 ^ r % 18446744073709551616 : Nat) : Int) := by
  have e : (x : Int) * 2 ^ r = ((x * 2 ^ r : Nat) : Int) := by push_cast; rfl
  rw [e, IntKind.wrap_u64]; rfl
theorem or_nat (m y s : Nat) (hm : m < 18446744073709551616) (hy : y < 18446744073709551616) : bits .or .u64 (m : Int) ((y : Int) / 2 ^ s) = ((m ||| y / 2 ^ s : Nat) : Int) := by
  have e : ((y : Int) / 2 ^ s) = ((y / 2 ^ s : Nat) : Int) := by push_cast; rfl
  rw [e]
  exact u64_or_nat m (y / 2 ^ s) hm (Nat.lt_of_le_of_lt (Nat.div_le_self _ _) hy)
theorem or_nat2 (m y s : Nat) (hm : m < 18446744073709551616) : bits .or .u64 (m : Int) (IntKind.u64.wrap ((y : Int) * 2 ^ s)) = ((m ||| y * 2 ^ s % 18446744073709551616 : Nat) : Int) := by
  rw [wrap_shl]
  exact u64_or_nat m _ hm (Nat.mod_lt _ (by decide))
/-- How a number's length grows, word by word. -/
theorem blen_word (n k : Nat) (hk : k < 4) : (wk n k = 0 → blen (n % pw (k + 1)) = blen (n % pw k)) ∧ (wk n k ≠ 0 → blen (n % pw (k + 1)) = 64 * k + blen (wk n k)) := by
  have hm := mod_word n k hk
  constructor
  · intro h; rw [← hm, h, Nat.zero_mul, Nat.add_zero]
  · intro h
    rw [← hm]
    have hx := blen_lt (wk n k)
    have hl : n % pw k < pw k := Nat.mod_lt _ (pw_pos k)
    rw [pw_two k (by omega)] at *
    generalize wk n k = x at *
    generalize n % 2 ^ (64 * k) = y at *
    have hp := Nat.two_pow_pos (64 * k)
    refine blen_eq _ _ ?_ (.inr ?_)
    · rw [Nat.pow_add]
      have : x + 1 ≤ 2 ^ blen x := hx
      have := Nat.mul_le_mul_right (2 ^ (64 * k)) this
      rw [Nat.succ_mul, Nat.mul_comm (2 ^ blen x)] at this
      omega
    · have hb : blen x = x.log2 + 1 := by unfold blen; rw [if_neg h]
      rw [hb]
      unfold bitN
      rw [show 64 * k + (x.log2 + 1) - 1 = 64 * k + x.log2 by omega, Nat.pow_add, ← Nat.div_div_eq_div_mul, Nat.add_mul_div_right _ _ hp, Nat.div_eq_of_lt hl, Nat.zero_add]
      have h1 := Nat.log2_self_le h
      have h2 : x < 2 ^ (x.log2 + 1) := Nat.lt_log2_self
      have h3 : x / 2 ^ x.log2 = 1 := by
        have a1 := Nat.div_pos h1 (Nat.two_pow_pos x.log2)
        have a2 : x / 2 ^ x.log2 < 2 := by rw [Nat.div_lt_iff_lt_mul (Nat.two_pow_pos _), Nat.mul_comm, ← Nat.pow_succ]; exact h2
        omega
      rw [h3]
theorem bitLenAux_blen (f x : Nat) (h : x < 2 ^ f) : Lib.bitLenAux f x = blen x := by
  induction f generalizing x with
  | zero => rw [Nat.pow_zero] at h; obtain rfl : x = 0 := by omega
            rfl
  | succ f ih =>
    unfold Lib.bitLenAux
    by_cases h0 : x = 0
    · rw [if_pos h0, h0]; rfl
    · rw [if_neg h0, ih (x / 2) (by rw [Nat.pow_succ] at h; omega)]
      unfold blen
      rw [if_neg h0, Nat.log2_def x]
      by_cases h1 : x / 2 = 0
      · rw [if_pos h1, if_neg (by omega)]
      · rw [if_neg h1, if_pos (by omega)]; omega
theorem bitLen_blen (x : Nat) (h : x < 18446744073709551616) : Lib.bitLen x = blen x := bitLenAux_blen 64 x h
theorem bitLenAux_le (f x : Nat) : Lib.bitLenAux f x ≤ f := by
  induction f generalizing x with
  | zero => simp [Lib.bitLenAux]
  | succ f ih => unfold Lib.bitLenAux; split; omega; have := ih (x / 2); omega
theorem bitLen_le (x : Nat) : Lib.bitLen x ≤ 64 := bitLenAux_le 64 x
theorem mul_add512 (n m i : Nat) (hn : n < M4) (hm : m < M4) (hi : i < 256) (hb : bitN n i = 1) :
    n % 2 ^ i * m < 2 ^ 512 ∧ m * 2 ^ i < 2 ^ 512 ∧ (n % 2 ^ i * m + m * 2 ^ i) % 2 ^ 512 = n % 2 ^ (i + 1) * m := by
  have hp : 2 ^ i ≤ 2 ^ 256 := Nat.pow_le_pow_right (by decide) (by omega)
  rw [M4_pow] at *
  have h0 : n % 2 ^ (i + 1) ≤ n := Nat.mod_le _ _
  have h1 : n % 2 ^ (i + 1) * m < 2 ^ 256 * 2 ^ 256 := Nat.mul_lt_mul_of_lt_of_lt (by omega) hm
  have h2 : n % 2 ^ i * m < 2 ^ 256 * 2 ^ 256 := Nat.mul_lt_mul_of_lt_of_lt (Nat.lt_of_le_of_lt (Nat.mod_le _ _) hn) hm
  have h3 : m * 2 ^ i < 2 ^ 256 * 2 ^ 256 := Nat.mul_lt_mul_of_lt_of_le hm hp (by decide)
  have e : n % 2 ^ i * m + m * 2 ^ i = n % 2 ^ (i + 1) * m := by rw [mod_succ, hb, Nat.one_mul, Nat.add_mul, Nat.mul_comm m]
  rw [show (2 : Nat) ^ 512 = 2 ^ 256 * 2 ^ 256 by decide +kernel]
  exact ⟨h2, h3, by rw [e]; exact Nat.mod_eq_of_lt h1⟩
theorem part_set (m i k : Nat) (_h : i + k < 512) : (bl (m % 2 ^ k * 2 ^ i) 512).set (i + k) (.int .i64 (bitN m k : Nat)) = bl (m % 2 ^ (k + 1) * 2 ^ i) 512 := by
  have hlt : m % 2 ^ k * 2 ^ i < 2 ^ (i + k) := by
    rw [Nat.add_comm, Nat.pow_add]; exact Nat.mul_lt_mul_of_pos_right (Nat.mod_lt _ (Nat.two_pow_pos k)) (Nat.two_pow_pos i)
  rw [bl_set _ _ _ _ (bitN_small _ _ hlt) (by have := bitN_lt m k; omega), mod_succ, Nat.add_mul]
  congr 2
  rw [Nat.mul_assoc, ← Nat.pow_add, Nat.add_comm i k]
theorem St.bitsK {w W : World} {L : List Res} {Fs : List (World → Prop)} (h : St w W L Fs) (i q m : Nat) {b X M : Nat} {T : TypeId} (hi : L[i]? = some (Blk b (bl X M) T)) (hq : q + m ≤ M) : BitsAt b q m (X / 2 ^ q) W := fun j hj => by
  rw [bitN_div]; exact h.cell hi (bl_get X M (q + j) (by omega))
theorem val_shr (y r : Nat) : ((y : Int) / 2 ^ r) = ((y / 2 ^ r : Nat) : Int) := by push_cast; rfl
end
section
open Go Go.RowKit Go.Proofs
theorem region_join0 {P : Program} {c : Code} {Q : Exit → Act → World → Prop} {a : Act} {w : World} {S : World → Prop} {a1 : Act} (hreg : c.wp P (fun e a' w' => e = .normal ∧ a' = a1 ∧ S w') a w) (hK : ∀ V, S V → Q .normal a1 V) : c.wp P Q a w :=
  Code.wp_mono (fun e a' w' h => by obtain ⟨rfl, rfl, hS⟩ := h; exact hK _ hS) hreg
/-- One step of a division, bit by bit. -/
theorem div_step (n m i : Nat) (hn : n < M4) (hm0 : 0 < m) (hm : m < M4) (r r1 r2 : Nat) (hr : r = n / 2 ^ (i + 1) % m) (h1 : r1 = r * 2 % M4) (h2 : r2 = (r1 + bitN n i) % M4) :
    (bitN r 255 = 1 → n / 2 ^ i % m = (r2 + M4 - m) % M4 ∧ n / 2 ^ i / m = 2 * (n / 2 ^ (i + 1) / m) + 1) ∧
    (bitN r 255 = 0 → m ≤ r2 → n / 2 ^ i % m = (r2 + M4 - m) % M4 ∧ n / 2 ^ i / m = 2 * (n / 2 ^ (i + 1) / m) + 1) ∧
    (bitN r 255 = 0 → r2 < m → n / 2 ^ i % m = r2 ∧ n / 2 ^ i / m = 2 * (n / 2 ^ (i + 1) / m)) ∧ r < M4 ∧ r1 < M4 ∧ r2 < M4 ∧ (r1 + 0) % M4 = r1 := by
  have e := div_bit n i
  have hb := bitN_lt n i
  have hrm : r < m := by rw [hr]; exact Nat.mod_lt _ hm0
  have hdm := Nat.div_add_mod (n / 2 ^ (i + 1)) m
  rw [← hr] at hdm
  have hov : bitN r 255 = 1 → M4 ≤ r * 2 := fun h => by
    unfold bitN at h
    have : (2 : Nat) ^ 255 = 57896044618658097711785492504343953926634992332820282019728792003956564819968 := by decide +kernel
    rw [this] at h
    simp only [M4] at *
    omega
  have hno : bitN r 255 = 0 → r * 2 < M4 := fun h => by
    unfold bitN at h
    have : (2 : Nat) ^ 255 = 57896044618658097711785492504343953926634992332820282019728792003956564819968 := by decide +kernel
    rw [this] at h
    simp only [M4] at *
    omega
  generalize bitN r 255 = ov at *
  generalize bitN n i = b at *
  generalize hq : n / 2 ^ (i + 1) / m = q at *
  rw [e, ← hdm]
  have key : ∀ (d v : Nat), d ≤ 1 → v < m → 2 * r + b = m * d + v → (2 * (m * q + r) + b) % m = v ∧ (2 * (m * q + r) + b) / m = 2 * q + d := by
    intro d v hd hv h
    have e2 : 2 * (m * q + r) + b = v + m * (2 * q + d) := by rw [Nat.mul_add m, show m * (2 * q) = 2 * (m * q) by rw [Nat.mul_left_comm]]; omega
    rw [e2]
    exact ⟨by rw [Nat.add_mul_mod_self_left, Nat.mod_eq_of_lt hv], by rw [Nat.add_mul_div_left _ _ hm0, Nat.div_eq_of_lt hv, Nat.zero_add]⟩
  clear hr hq e hdm
  refine ⟨fun h => ?_, fun h h' => ?_, fun h h' => ?_, by omega, by rw [h1]; exact Nat.mod_lt _ (by decide), by rw [h2]; exact Nat.mod_lt _ (by decide), by rw [h1, Nat.add_zero, Nat.mod_mod]⟩
  · have ho := hov h
    obtain ⟨k1, k2⟩ := key 1 (2 * r + b - m) (by omega) (by simp only [M4] at *; omega) (by simp only [M4] at *; omega)
    rw [k1, k2]
    refine ⟨?_, rfl⟩
    rw [h2, h1]
    simp only [M4] at *
    omega
  · have ho := hno h
    have hv : r2 = 2 * r + b := by rw [h2, h1]; simp only [M4] at *; omega
    obtain ⟨k1, k2⟩ := key 1 (2 * r + b - m) (by omega) (by omega) (by omega)
    rw [k1, k2]
    refine ⟨?_, rfl⟩
    rw [hv] at h' ⊢
    simp only [M4] at *
    omega
  · have ho := hno h
    have hv : r2 = 2 * r + b := by rw [h2, h1]; simp only [M4] at *; omega
    obtain ⟨k1, k2⟩ := key 0 (2 * r + b) (by omega) (by omega) (by omega)
    rw [k1, k2]
    exact ⟨hv.symm, rfl⟩
theorem quo_bit (Q i d : Nat) (hd : d ≤ 1) : bitN (Q * 2 ^ (i + 1)) i = 0 ∧ Q * 2 ^ (i + 1) + d * 2 ^ i = (2 * Q + d) * 2 ^ i := by
  constructor
  · unfold bitN
    rw [Nat.pow_succ, ← Nat.mul_assoc, Nat.mul_right_comm, Nat.mul_div_cancel _ (Nat.two_pow_pos i), Nat.mul_mod_left]
  · rw [Nat.add_mul, Nat.pow_succ, Nat.mul_comm 2 Q, Nat.mul_assoc, Nat.mul_comm 2]
end
section
open Go Go.RowKit Go.Proofs
theorem bit_or (x s : Nat) : x ||| 2 ^ s = x + (1 - bitN x s) * 2 ^ s := by
  apply Nat.eq_of_testBit_eq
  intro i
  have hb := bitN_lt x s
  have h01 : bitN x s = 0 ∨ bitN x s = 1 := by omega
  rw [Nat.testBit_or, Nat.testBit_two_pow]
  have key : ∀ (y : Nat), bitN y i = (x.testBit i || decide (s = i)).toNat → (x.testBit i || decide (s = i)) = y.testBit i := by
    intro y h
    rw [bitN_tb] at h
    cases h1 : y.testBit i <;> cases h2 : (x.testBit i || decide (s = i)) <;> simp_all
  refine key _ ?_
  rcases h01 with h | h
  · rw [h]
    by_cases hi : i = s
    · subst hi; rw [bitN_add_self _ _ _ h (by omega)]; simp
    · rw [bitN_add_other _ _ _ _ h (by omega) hi, bitN_tb]
      simp [show ¬ s = i from fun e => hi e.symm]
  · rw [h]
    simp only [Nat.sub_self, Nat.zero_mul, Nat.add_zero]
    rw [bitN_tb]
    by_cases hi : s = i
    · subst hi
      rw [bitN_tb] at h
      cases hh : x.testBit s
      · rw [hh] at h; cases h
      · simp
    · simp [hi]
def dstep (n m : Nat) (s : Nat × Nat) (i : Fin 256) : Nat × Nat :=
  if bitN s.2 255 = 0 ∧ s.2 * 2 % M4 + bitN n i < m then (s.1, s.2 * 2 % M4 + bitN n i)
  else (s.1 + (1 - bitN s.1 i) * 2 ^ i.val, (s.2 * 2 % M4 + bitN n i + M4 - m) % M4)
def itemsF : Nat → List (Fin 256)
  | 0 => []
  | j + 1 => ⟨j % 256, Nat.mod_lt _ (by decide)⟩ :: itemsF j
theorem itemsF_len (j : Nat) : (itemsF j).length = j := by
  induction j with
  | zero => rfl
  | succ j ih => simp [itemsF, ih]
def dfold (n m : Nat) (l : List (Fin 256)) : Nat × Nat := l.foldl (dstep n m) (0, 0)
theorem dfold_nil (n m : Nat) : dfold n m [] = (0, 0) := rfl
theorem dfold_snoc (n m : Nat) (l : List (Fin 256)) (i : Fin 256) : dfold n m (l ++ [i]) = dstep n m (dfold n m l) i := by simp [dfold]
theorem dfold_all (n m : Nat) (hn : n < M4) (hm0 : 0 < m) (hm : m < M4) : dfold n m (itemsF (blen n)) = (n / m, n % m) := by
  have key : ∀ j, j ≤ 256 → (itemsF j).foldl (dstep n m) (n / 2 ^ j / m * 2 ^ j, n / 2 ^ j % m) = (n / m, n % m) := by
    intro j
    induction j with
    | zero => intro _; simp [itemsF]
    | succ i ih =>
      intro hi
      rw [itemsF, List.foldl_cons]
      have hmod : i % 256 = i := Nat.mod_eq_of_lt (by omega)
      obtain ⟨d1, d2, d3, l0, l1, l2, l3⟩ := div_step n m i hn hm0 hm (n / 2 ^ (i + 1) % m) (n / 2 ^ (i + 1) % m * 2 % M4) ((n / 2 ^ (i + 1) % m * 2 % M4 + bitN n i) % M4) rfl rfl rfl
      obtain ⟨q1, q2⟩ := quo_bit (n / 2 ^ (i + 1) / m) i 1 (by omega)
      have hb := bitN_lt n i
      have hr2 : (n / 2 ^ (i + 1) % m * 2 % M4 + bitN n i) % M4 = n / 2 ^ (i + 1) % m * 2 % M4 + bitN n i := by simp only [M4] at *; omega
      rw [hr2] at d1 d2 d3
      have hov := bitN_lt (n / 2 ^ (i + 1) % m) 255
      have key2 : dstep n m (n / 2 ^ (i + 1) / m * 2 ^ (i + 1), n / 2 ^ (i + 1) % m) ⟨i % 256, Nat.mod_lt _ (by decide)⟩ = (n / 2 ^ i / m * 2 ^ i, n / 2 ^ i % m) := by
        unfold dstep
        simp only [hmod]
        rw [q1]
        by_cases h0 : bitN (n / 2 ^ (i + 1) % m) 255 = 0
        · by_cases h1 : n / 2 ^ (i + 1) % m * 2 % M4 + bitN n i < m
          · rw [if_pos ⟨h0, h1⟩]
            obtain ⟨e1, e2⟩ := d3 h0 h1
            rw [e1, e2]
            congr 1
            rw [Nat.pow_succ, Nat.mul_comm 2, Nat.mul_assoc, Nat.mul_comm 2]
          · rw [if_neg (fun h => h1 h.2)]
            obtain ⟨e1, e2⟩ := d2 h0 (by omega)
            rw [e1, e2, ← q2]
        · rw [if_neg (fun h => h0 h.1)]
          obtain ⟨e1, e2⟩ := d1 (by omega)
          rw [e1, e2, ← q2]
      rw [key2]
      exact ih (by omega)
  have hb := blen_le n hn
  have h0 : n / 2 ^ blen n = 0 := Nat.div_eq_of_lt (blen_lt n)
  have := key (blen n) hb
  rw [h0, Nat.zero_div, Nat.zero_mul, Nat.zero_mod] at this
  exact this
theorem dstep_lt (n m : Nat) (s : Nat × Nat) (i : Fin 256) (h1 : s.1 < M4) (hm : m < M4) : (dstep n m s i).1 < M4 ∧ (dstep n m s i).2 < M4 := by
  unfold dstep
  split
  · rename_i h; exact ⟨h1, by have := h.2; simp only; omega⟩
  · refine ⟨?_, Nat.mod_lt _ (by decide)⟩
    simp only
    rw [← bit_or]
    rw [M4_pow] at *
    exact Nat.or_lt_two_pow h1 (Nat.pow_lt_pow_right (by decide) i.isLt)
theorem dfold_lt (n m : Nat) (hm : m < M4) (l : List (Fin 256)) : (dfold n m l).1 < M4 ∧ (dfold n m l).2 < M4 := by
  unfold dfold
  have key : ∀ (l : List (Fin 256)) (s : Nat × Nat), s.1 < M4 → s.2 < M4 → (l.foldl (dstep n m) s).1 < M4 ∧ (l.foldl (dstep n m) s).2 < M4 := by
    intro l
    induction l with
    | nil => intro s h1 h2; exact ⟨h1, h2⟩
    | cons i l ih => intro s h1 _; rw [List.foldl_cons]; have := dstep_lt n m s i h1 hm; exact ih _ this.1 this.2
  exact key l (0, 0) (by decide) (by decide)
theorem wk_bitN (q i : Nat) (hi : i < 256) : bitN (wk q (i / 64)) (i % 64) = bitN q i := wk_bit q i hi
/-- A bit is laid on a number, word by word. -/
theorem or_word (q i : Nat) (hi : i < 256) : wk q (i / 64) + (1 - bitN q i) * 2 ^ (i % 64) < 18446744073709551616 ∧ q - wk q (i / 64) * pw (i / 64) + (wk q (i / 64) + (1 - bitN q i) * 2 ^ (i % 64)) * pw (i / 64) = q + (1 - bitN q i) * 2 ^ i := by
  have e : 2 ^ i = 2 ^ (i % 64) * pw (i / 64) := by rw [pw_two _ (by omega), ← Nat.pow_add]; congr 1; omega
  have h1 := bit_or (wk q (i / 64)) (i % 64)
  rw [wk_bitN q i hi] at h1
  refine ⟨?_, ?_⟩
  · rw [← h1]
    have := Nat.or_lt_two_pow (n := 64) (wk_lt q (i / 64)) (show 2 ^ (i % 64) < 2 ^ 64 from Nat.pow_lt_pow_right (by decide) (Nat.mod_lt _ (by decide)))
    exact this
  · rw [e, Nat.add_mul, Nat.mul_assoc]
    have h2 : wk q (i / 64) * pw (i / 64) ≤ q := by
      unfold wk
      exact Nat.le_trans (Nat.mul_le_mul_right _ (Nat.mod_le _ _)) (Nat.div_mul_le_self _ _)
    omega
theorem rest_word (r b : Nat) (hb : b ≤ 1) : wk (r * 2 % M4) 0 + b < 18446744073709551616 ∧ wk (r * 2 % M4) 0 ||| b = wk (r * 2 % M4) 0 + b ∧ r * 2 % M4 - wk (r * 2 % M4) 0 * pw 0 + (wk (r * 2 % M4) 0 + b) * pw 0 = r * 2 % M4 + b ∧ r * 2 % M4 + b < M4 := by
  have he : wk (r * 2 % M4) 0 % 2 = 0 := by simp only [wk, pw, M4]; omega
  have hl := wk_lt (r * 2 % M4) 0
  refine ⟨by omega, or_add64 _ _ 1 (by simpa using he) (by omega), ?_, by simp only [M4]; omega⟩
  unfold wk at *
  simp only [pw, Nat.div_one, Nat.mul_one] at *
  omega
theorem or_one (x b : Nat) (hx : x < 18446744073709551616) (hb : b ≤ 1) : bits .or .u64 (x : Int) (b : Int) = ((x ||| b : Nat) : Int) := u64_or_nat x b hx (by omega)
theorem or_pow (x k : Nat) (hx : x < 18446744073709551616) : bits .or .u64 (x : Int) (IntKind.u64.wrap (2 ^ (k % 64))) = ((x ||| 2 ^ (k % 64) : Nat) : Int) := by
  rw [wrap_pow]; exact u64_or_nat x _ hx (pow63 k)
theorem or_pow' (x k : Nat) (hx : x < 18446744073709551616) : bits .or .u64 (x : Int) (IntKind.u64.wrap (2 ^ min ((k : Int).tmod 64).toNat 64)) = ((x ||| 2 ^ (k % 64) : Nat) : Int) := by
  have e : min ((k : Int).tmod 64).toNat 64 = k % 64 := by
    rw [Int.tmod_eq_emod_of_nonneg (by omega)]; omega
  rw [e]
  exact or_pow x k hx
theorem high_bit (r : Nat) (hr : r < M4) : wk r 3 / 2 ^ 63 = bitN r 255 := by
  unfold bitN wk
  have e : (2 : Nat) ^ 255 = pw 3 * 2 ^ 63 := by rw [pw_two 3 (by decide), ← Nat.pow_add]
  rw [e, ← Nat.div_div_eq_div_mul]
  have h3 : r / pw 3 < 18446744073709551616 := by
    rw [Nat.div_lt_iff_lt_mul (pw_pos 3)]
    simp only [pw, M4] at *; omega
  rw [Nat.mod_eq_of_lt h3]
  generalize r / pw 3 = y at *
  have : y / 2 ^ 63 < 2 := by
    have : (2 : Nat) ^ 63 = 9223372036854775808 := by decide
    rw [this]; omega
  generalize y / 2 ^ 63 = z at *
  omega
end
end Go.Proofs.Ytkbambojnifjcaa
