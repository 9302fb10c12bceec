/-
  Layer 6: log2, the document's log, number, noughts; rows of zeros made.
-/
import Derived.Test.YtlhdbkbgedlmnaaDoorAgg
import Derived.Test.YtlhdbkbgedlmnaaDoorMt
import Derived.Laws.MakeOwn
namespace Go.Proofs.YtlhdbkbgedlmnaaDoor
open Go.RowKit
set_option linter.unusedVariables false

/-- the cells of so many bytes 0 -/
def zcells (n : Nat) : Array Value := (bys (Mt.zs n)).toArray
theorem madeCells_zero (n : Nat) : madeCells (Value.int .u8 0).cells (n * 1) = zcells n := by
  apply Array.ext
  · simp [size_madeCells, zcells, bys, Mt.zs]
  · intro i h1 h2
    simp [madeCells, zcells, bys, Mt.zs, Value.cells]
    rw [Nat.mod_one]
    rfl
theorem make_zeros (n : Nat) (hn : n ≤ 140737488355328) (w : World) : (Instr.makeSlice 54 (.int .i64 (n : Int)) (.int .i64 (n : Int))).run Tryd.prog w = .ok (.slice (some ⟨w.heap.size, 0, none⟩) n n) (w.alloc (.cells (zcells n) 5)) := by
  obtain ⟨i0, hi, hz0, hz1, hz2⟩ := info_parts info_u8
  have h := run_make (P := Tryd.prog) w 54 5 i0 _ Tryd.underlying54 hi hz0 .i64 .i64 (n : Int) (n : Int) (by omega) (Int.le_refl _) (by rw [hz2]; omega) (by omega)
  rw [h, hz1]
  simp only [Int.toNat_natCast]
  rw [madeCells_zero]
theorem conv_cells (w : World) (g n : Nat) (t : TypeId) (l : List UInt8) (hb : Blk w g t (bys l).toArray) (hl : l.length = n) : (convert 54 9 (.slice (some ⟨g, 0, none⟩) n n)).run Tryd.prog w = .ok (S l) w := by
  have := run_convert_bytes_back (P := Tryd.prog) w 54 9 5 ⟨g, 0, none⟩ n l Tryd.underlying54 Tryd.underlying5 Tryd.underlying9 (fun j hj => by
    have hadd : (⟨g, 0, none⟩ : Addr).add j = ⟨g, j, none⟩ := by unfold Addr.add; split <;> simp_all
    rw [hadd, hb.cell]
    simp [bys]
    rw [List.getElem?_eq_getElem hj]
    simp)
  rw [hl] at this
  exact this

set_option maxHeartbeats 1000000 in
set_option maxRecDepth 100000 in
theorem noughts_calls (n : Nat) (w : World) (hn : n ≤ 140737488355328) : Calls Tryd.prog 29 #[.int .i64 n] w fun e w' => e = .returned (S (Mt.zs n)) ∧ Chg (fun _ => False) w w' := by
  have hmk := make_zeros n hn
  have hcv : ∀ w : World, (convert 54 9 (.slice (some ⟨w.heap.size, 0, none⟩) n n)).run Tryd.prog (w.alloc (.cells (zcells n) 5)) = .ok (S (Mt.zs n)) (w.alloc (.cells (zcells n) 5)) := fun w => conv_cells _ _ n _ _ (Blk.new w 5 (zcells n)) (by simp [Mt.zs])
  go_enter Tryd.func29, Tryd.ntmps29
  go_wp2_with fail
  go_ret
  exact ⟨rfl, (Chg.refl _ w).alloc _⟩

set_option maxHeartbeats 1000000 in
set_option maxRecDepth 100000 in
theorem log2_pow (k : Nat) (N : Nat) (hN : Hid (N = 2 ^ k)) (hk : k ≤ 13) (w : World) : Calls Tryd.prog 43 #[.int .i64 N] w fun e w' => e = .returned (.int .u8 k) ∧ w = w' := by
  go_enter Tryd.func43, Tryd.ntmps43
  go_wp2_with fail
  go_loop [0, 3] (fun nv cv => ∃ (j M : Nat), j ≤ k ∧ nv = .int .i64 M ∧ cv = .int .u8 j ∧ M = 2 ^ (k - j)) (fun _ cv => 13 - (intOf cv).toNat)
  case atStart => exact ⟨0, N, by omega, rfl, rfl, hN.out⟩
  case round =>
    obtain ⟨j, M, hj, rfl, rfl, hM⟩ := hrel
    by_cases hjk : j < k
    · obtain ⟨H, hH⟩ : ∃ H, H = 2 ^ (k - (j + 1)) := ⟨_, rfl⟩
      have h2 : M = H * 2 := by rw [hM, hH, ← Nat.pow_succ]; congr 1 <;> omega
      have hpos : 0 < H := by rw [hH]; exact Nat.pow_pos (by decide)
      have hlt : H ≤ 2 ^ 13 := by rw [hH]; exact Nat.pow_le_pow_right (by decide) (by omega)
      have hHs : H ≤ 8192 := hlt
      have HH := Lib.hid hH
      subst h2
      have h1 : (1 : Int) < ((H * 2 : Nat) : Int) := by omega
      have h1n : 1 < H * 2 := by omega
      have hdv : ((H * 2 : Nat) : Int) / 2 = (H : Int) := by omega
      clear hM hH hlt
      go_wp2_with fail
      go_round
      case rel => exact ⟨j + 1, H, by omega, by first | rfl | (congr 1; done) | (congr 1; omega), by go_num, HH.out⟩
      case measure => simp [intOf]; omega
    · obtain rfl : j = k := by omega
      have h1 : M = 1 := by rw [hM, Nat.sub_self, Nat.pow_zero]
      subst h1
      clear hM
      go_wp2_with fail
      go_ret
      exact ⟨rfl, rfl⟩
set_option maxHeartbeats 1000000 in
set_option maxRecDepth 100000 in
theorem rlog_pow (k : Nat) (N : Nat) (hN : Hid (N = 2 ^ k)) (hk : k ≤ 13) (w : World) : Calls Tryd.prog 38 #[.int .i64 N] w fun e w' => e = .returned (.int .i64 k) ∧ w = w' := by
  go_enter Tryd.func38, Tryd.ntmps38
  go_wp2_with fail
  go_loop [0, 3] (fun nv cv => ∃ (j M : Nat), j ≤ k ∧ nv = .int .i64 M ∧ cv = .int .i64 j ∧ M = 2 ^ (k - j)) (fun _ cv => 13 - (intOf cv).toNat)
  case atStart => exact ⟨0, N, by omega, rfl, rfl, hN.out⟩
  case round =>
    obtain ⟨j, M, hj, rfl, rfl, hM⟩ := hrel
    by_cases hjk : j < k
    · obtain ⟨H, hH⟩ : ∃ H, H = 2 ^ (k - (j + 1)) := ⟨_, rfl⟩
      have h2 : M = H * 2 := by rw [hM, hH, ← Nat.pow_succ]; congr 1 <;> omega
      have hpos : 0 < H := by rw [hH]; exact Nat.pow_pos (by decide)
      have hlt : H ≤ 2 ^ 13 := by rw [hH]; exact Nat.pow_le_pow_right (by decide) (by omega)
      have hHs : H ≤ 8192 := hlt
      have HH := Lib.hid hH
      subst h2
      have h1 : (1 : Int) < ((H * 2 : Nat) : Int) := by omega
      have h1n : 1 < H * 2 := by omega
      have hdv : ((H * 2 : Nat) : Int) / 2 = (H : Int) := by omega
      clear hM hH hlt
      go_wp2_with fail
      go_round
      case rel => exact ⟨j + 1, H, by omega, by first | rfl | (congr 1; done) | (congr 1; omega), by go_num, HH.out⟩
      case measure => simp [intOf]; omega
    · obtain rfl : j = k := by omega
      have h1 : M = 1 := by rw [hM, Nat.sub_self, Nat.pow_zero]
      subst h1
      clear hM
      go_wp2_with fail
      go_ret
      exact ⟨rfl, rfl⟩
end Go.Proofs.YtlhdbkbgedlmnaaDoor
