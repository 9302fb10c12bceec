/-
  Layer 6: the document's number: so many bytes, the highest first.
-/
import Derived.Test.YtlhdbkbgedlmnaaDoorMnum
namespace Go.Proofs.YtlhdbkbgedlmnaaDoor
open Go.RowKit
set_option linter.unusedVariables false

/-- the cells behind j rounds -/
def ncells (k j : Nat) (n : Nat) : Array Value := (bys (Mt.zs (k - j) ++ Pk.be j n)).toArray
theorem ncells_size (k j n : Nat) (h : j ≤ k) : (ncells k j n).size = k := by simp [ncells, bys, Mt.zs, Pk.be_length]; omega
theorem ncells_at (k j n : Nat) (h : j < k) : (ncells k j n)[k - 1 - j]? = some (.int .u8 0) := by
  unfold ncells bys
  rw [List.getElem?_toArray, List.getElem?_map, List.getElem?_append_left (by simp [Mt.zs]; omega)]
  unfold Mt.zs
  rw [List.getElem?_replicate, if_pos (by omega)]
  rfl
theorem ncells_set (k j n : Nat) (h : j < k) : (ncells k j n).setIfInBounds (k - 1 - j) (.int .u8 (n / 256 ^ j % 256 : Nat)) = ncells k (j + 1) n := by
  unfold ncells
  rw [List.setIfInBounds_toArray]
  congr 1
  have hb : (UInt8.ofNat ((n : Int) / 256 ^ j % 256).toNat).toNat = n / 256 ^ j % 256 := by
    have e : ((n : Int) / 256 ^ j % 256).toNat = n / 256 ^ j % 256 := by
      have : (n : Int) / 256 ^ j = ((n / 256 ^ j : Nat) : Int) := by simp
      rw [this]; omega
    rw [e]; simp
  have e : (Value.int .u8 (n / 256 ^ j % 256 : Nat)) = (fun b : UInt8 => Value.int .u8 (b.toNat : Int)) (UInt8.ofNat ((n : Int) / 256 ^ j % 256).toNat) := by simp only [hb]
  unfold bys
  rw [e, ← List.map_set]
  congr 1
  have hz : Mt.zs (k - j) = Mt.zs (k - (j + 1)) ++ [0] := by
    unfold Mt.zs
    rw [show k - j = (k - (j + 1)) + 1 by omega, List.replicate_succ']
  rw [hz, List.append_assoc, List.set_append_right _ _ (by simp [Mt.zs]; omega)]
  simp only [Pk.be]
  congr 1
  have : k - 1 - j - (Mt.zs (k - (j + 1))).length = 0 := by simp [Mt.zs]; omega
  rw [this]
  rfl

set_option maxHeartbeats 1000000 in
set_option maxRecDepth 100000 in
theorem number_calls (k n : Nat) (w : World) (hk : k ≤ 8) (hn : U64 n) : Calls Tryd.prog 37 #[.int .u64 n, .int .i64 k] w fun e w' => e = .returned (S (Pk.be k n)) ∧ Chg (fun _ => False) w w' := by
  have hmk := make_zeros k (by omega)
  have hz0 : zcells k = ncells k 0 n := by simp [zcells, ncells, Pk.be]
  rw [hz0] at hmk
  have Hz0 := Lib.hid hz0
  have hwr : IntKind.i64.wrap ((k : Int) - 1) = (k : Int) - 1 := IntWalk.i64_in _ (by omega)
  clear hz0
  go_enter Tryd.func37, Tryd.ntmps37
  go_wp2_with fail
  go_loopw [0, 6] (fun nv iv wr => ∃ (j m : Nat) (z : Int), j ≤ k ∧ z = (k : Int) - 1 - j ∧ nv = .int .u64 m ∧ iv = .int .i64 z ∧ m = n / 256 ^ j ∧ Blk wr w.heap.size 5 (ncells k j n) ∧ Chg (fun _ => False) w wr) (fun _ iv _ => (intOf iv + 1).toNat)
  case atStart => exact ⟨0, n, (k : Int) - 1, by omega, by omega, rfl, rfl, by simp, Blk.new w _ _, (Chg.refl _ w).alloc _⟩
  case round =>
    obtain ⟨j, m, z, hj, hz, rfl, rfl, hm, hb, hc⟩ := hrel
    by_cases hjk : j < k
    · obtain ⟨i, hi⟩ : ∃ i : Nat, i = k - 1 - j := ⟨_, rfl⟩
      obtain rfl : z = (i : Int) := by omega
      have d1 : wr.cell? ⟨w.heap.size, i, none⟩ = some (.int .u8 0) := by rw [hb.cell, hi]; exact ncells_at k j n hjk
      have f1 := hb.frozen i
      have hik : i < k := by omega
      have hset := ncells_set k j n hjk
      rw [← hi, ← hm] at hset
      have hm2 : m / 256 = n / 256 ^ (j + 1) := by rw [hm, Nat.div_div_eq_div_mul, Nat.pow_succ]
      have hml : U64 m := by unfold U64 at *; have := Nat.div_le_self n (256 ^ j); omega
      have Hset := Lib.hid hset
      have Hm2 := Lib.hid hm2
      have Hi := Lib.hid hi
      have hzi : (i : Int) - 1 = (k : Int) - 1 - (j + 1 : Nat) := by omega
      have Hzi := Lib.hid hzi
      clear hset hm2 hm hi hz hzi
      go_wp2_with fail
      go_roundw
      case rel =>
        refine ⟨j + 1, m / 256, (i : Int) - 1, by omega, Hzi.out, ?_, rfl, Hm2.out, ?_, hc.setCell (.inr (Nat.le_refl _)) _⟩
        · congr 1
          rw [IntKind.wrap_u64]
          unfold U64 at hml
          omega
        · have := hb.set_ i (.int .u8 ((m % 256 : Nat) : Int))
          rw [Hset.out] at this
          exact this
      case measure => simp [intOf]
    · obtain rfl : j = k := by omega
      have hcv : (convert 54 9 (.slice (some ⟨w.heap.size, 0, none⟩) j j)).run Tryd.prog wr = .ok (S (Pk.be j n)) wr := conv_cells _ _ j _ _ (by have := hb; unfold ncells at this; rw [Nat.sub_self] at this; simpa [Mt.zs] using this) (Pk.be_length j n)
      obtain rfl : z = -1 := by omega
      clear hm hz
      go_wp2_with fail
      go_ret
      exact ⟨rfl, hc⟩
end Go.Proofs.YtlhdbkbgedlmnaaDoor
