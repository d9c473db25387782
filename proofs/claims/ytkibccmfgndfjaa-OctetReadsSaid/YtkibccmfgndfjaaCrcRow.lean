/- Contracts and words that the laws stand on (CrcRow). -/
import Derived.Test.YtkibccmfgndfjaaCrcAlive
set_option linter.unusedVariables false
set_option linter.unusedSimpArgs false
namespace Go.Proofs.Ytkibccmfgndfjaa
section
open Go.RowKit Go.Proofs
/-- So many bytes, from one on, by a step. -/
def rowB (a d : Int) (n : Nat) : List UInt8 := (List.range n).map fun (i : Nat) => UInt8.ofNat (((a + (i : Int) * d) % 256).toNat)
theorem rowB_length (a d : Int) (n : Nat) : (rowB a d n).length = n := by simp [rowB]
theorem rowB_succ (a d : Int) (n : Nat) : rowB a d (n + 1) = rowB a d n ++ [UInt8.ofNat (((a + (n : Int) * d) % 256).toNat)] := by simp [rowB, List.range_succ]
set_option maxHeartbeats 1000000 in
set_option maxRecDepth 100000 in
theorem row46 (a d : Int) (n : Nat) (ha : -1000 ≤ a ∧ a ≤ 1000) (hd : d = 0 ∨ d = 1 ∨ d = -1) (hn : n ≤ 1000) (w : World) :
    Calls Try.prog 46 #[.int .i64 a, .int .i64 d, .int .i64 (n : Int)] w fun e w' => ∃ v', e = .returned v' ∧ w'.ownsRow w.heap.size 5 1 v' n (bs (rowB a d n)) ∧ Below w.heap.size w w' := by
  go_enter Try.func46, Try.ntmps46
  go_wp2_with fail
  go_loopw [8, 7] (fun s8 s7 w' => ∃ k : Nat, k ≤ n ∧ s8 = .int .i64 k ∧ w'.ownsRow w.heap.size 5 1 s7 k (bs (rowB a d k)) ∧ Below w.heap.size w w') (fun s8 _ _ => n - (intOf s8).toNat)
  case atStart => exact ⟨0, by omega, rfl, World.ownsRow_nil _ _ _ _, Below.refl _ _⟩
  case round =>
    obtain ⟨k, hk, rfl, hown, hbk⟩ := hrel
    have HO := Lib.hid hown; have HBk := Lib.hid hbk
    obtain ⟨A5, c5, rfl⟩ := own_slice hown
    clear hown hbk
    by_cases hlt : k < n
    · have e0 : wrap64 ((k : Int) * d) = (k : Int) * d := by
        unfold wrap64
        rcases hd with rfl | rfl | rfl <;> omega
      have e2' : wrap64 (a + (k : Int) * d) = a + (k : Int) * d := by
        unfold wrap64
        rcases hd with rfl | rfl | rfl <;> omega
      obtain ⟨kd, hkd⟩ : ∃ y, y = (k : Int) * d := ⟨_, rfl⟩
      obtain ⟨x, hx⟩ : ∃ x : UInt8, x = UInt8.ofNat (((a + kd) % 256).toNat) := ⟨_, rfl⟩
      have hsn := rowB_succ a d k
      rw [← hkd, ← hx] at hsn
      have e1 : wrap64 ((k : Int) * d) = kd := e0.trans hkd.symm
      rw [← hkd] at e2'
      have e2 := e2'
      have e3 : (a + kd) % 256 = (x.toNat : Int) := by
        rw [hx]
        simp
        omega
      clear e0 e2' hkd
      have HSN := Lib.hid hsn; have HXL := Lib.hid (rowB_length a d k)
      clear hsn hx
      go_wp2_with (at_builtin; go_loud (refine wpl_pushes _ rfl (.tmp 14) (.tmp 21) 29 rfl w.heap.size 5 Try.underlying29 u8_info (.slice A5 k c5) (rowB a d k) [x] _ rfl rfl ?c1 ?c2 ?c3 ?c4 ?_))
      case c1 => rw [HXL.out]; exact own_chg HO.out ((Chg.refl [] wr).alloc _) (by simp)
      case c2 => exact HB.lit wr [x] 5 (0, 0)
      case c3 => rw [HXL.out]; simp; omega
      case c4 => exact (HBk.out.alloc HBk.out.size _).size
      intro v' w' hown hg hnx
      rw [← HSN.out, HXL.out] at hown
      have hbl : Below w.heap.size w w' := (HBk.out.alloc HBk.out.size _).grown hg (HBk.out.alloc HBk.out.size _).size (fun j hj => (HO.out.lt j hj).1)
      have HO2 := Lib.hid hown; have HB2 := Lib.hid hbl
      obtain ⟨A6, c6, rfl⟩ := own_slice hown
      clear hown hbl hg hnx
      go_wp2_with fail
      go_roundw
      case rel => exact ⟨k + 1, by omega, by go_num, HO2.out, HB2.out⟩
      case measure => simp [intOf]; omega
    · obtain rfl : k = n := by omega
      go_wp2_with fail
      go_ret
      exact ⟨_, rfl, HO.out, HBk.out⟩
end
end Go.Proofs.Ytkibccmfgndfjaa
