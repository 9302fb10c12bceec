/-
  Digests: pack.into, Writer.Digest, heartwoodlaw01.digest; bytesOf, layByte, layBytes, layFree, layText.
-/
import Derived.Test.YthkfcfkkamffpaaGreatEach
import Derived.Test.YthkfcfkkamffpaaGreatWt
namespace Go.Proofs.YthkfcfkkamffpaaGreat
open Go.RowKit
set_option linter.unusedVariables false

/-- a width brought into 0 to 32 -/
def wd (n : Int) : Nat := if n < 0 then 0 else if 32 < n then 32 else n.toNat
theorem wd_le (n : Int) : wd n ≤ 32 := by unfold wd; split <;> (try split) <;> omega
theorem wd_neg {n : Int} (h : n < 0) : wd n = 0 := by unfold wd; rw [if_pos h]
theorem wd_big {n : Int} (h : 32 < n) : wd n = 32 := by unfold wd; rw [if_neg (by omega), if_pos h]
theorem wd_mid {n : Int} (h : 0 ≤ n) (h2 : n ≤ 32) : (wd n : Int) = n := by unfold wd; rw [if_neg (by omega), if_neg (by omega)]; omega
set_option maxHeartbeats 400000 in
set_option maxRecDepth 100000 in
theorem into_calls (n : Int) (w : World) : Calls Tryz.prog 193 #[.int .i64 n] w fun e w' => e = .returned (.int .i64 (wd n)) ∧ w = w' := by
  rcases (show n < 0 ∨ (0 ≤ n ∧ n ≤ 32) ∨ 32 < n by omega) with h0 | ⟨h0, h1⟩ | h0
  · have e := wd_neg h0
    go_enter Tryz.func193, Tryz.ntmps193
    go_wp2_with fail
    all_goals go_ret
    all_goals exact ⟨ret_int (by omega), rfl⟩
  · have e := wd_mid h0 h1
    have He := Lib.hid e
    clear e
    go_enter Tryz.func193, Tryz.ntmps193
    go_wp2_with fail
    all_goals go_ret
    all_goals exact ⟨ret_int (by have := He.out; omega), rfl⟩
  · have e := wd_big h0
    go_enter Tryz.func193, Tryz.ntmps193
    go_wp2_with fail
    all_goals go_ret
    all_goals exact ⟨ret_int (by omega), rfl⟩

theorem setRow_other' (w : World) (g k : Nat) (cs : Array Value) (h : k ≠ g) : (w.setRow g cs).heap[k]? = w.heap[k]? := by
  simp only [World.setRow, Array.getElem?_modify]
  rw [if_neg (fun e => h e.symm)]
theorem Blk.setRow {w : World} {g : Nat} {t : TypeId} {cs : Array Value} (h : Blk w g t cs) (cs' : Array Value) : Blk (w.setRow g cs') g t cs' := setRow_heap w g cs cs' t (0, 0) h
theorem Blk.setRow_far {w : World} {g g' : Nat} {t : TypeId} {cs : Array Value} (h : Blk w g t cs) (hne : g ≠ g') (cs' : Array Value) : Blk (w.setRow g' cs') g t cs := (setRow_other' w g' g cs' hne).trans h
theorem Chg.setRow {S : Nat → Prop} {w w' : World} (h : Chg S w w') {g : Nat} (hg : S g ∨ w.heap.size ≤ g) (cs : Array Value) : Chg S w (w'.setRow g cs) :=
  ⟨h.os, h.tape, h.output, by simpa using h.size, fun k hk hn => by
    rw [setRow_other' _ _ _ _ (by rintro rfl; rcases hg with hg | hg; exact hn hg; omega)]
    exact h.block k hk hn⟩

/-- the cells of a digest into which k bytes of l have come -/
def dgc (l : List UInt8) (k : Nat) : Array Value := (bys (l.take k ++ List.replicate (32 - k) 0)).toArray
theorem dgc_size (l : List UInt8) (k : Nat) (h1 : k ≤ 32) (h2 : k ≤ l.length) : (dgc l k).size = 32 := by simp [dgc, bys]; omega
theorem dgc_at (l : List UInt8) (k : Nat) (h1 : k < 32) (h2 : k < l.length) : (dgc l k)[k]? = some (.int .u8 0) := by
  unfold dgc bys
  rw [List.getElem?_toArray, List.getElem?_map, List.getElem?_append_right (by simp; omega)]
  simp [show min k l.length = k by omega, show 0 < 32 - k by omega]
theorem dgc_set (l : List UInt8) (k : Nat) (b : UInt8) (h1 : k < 32) (h2 : l[k]? = some b) : (dgc l k).setIfInBounds k (.int .u8 b.toNat) = dgc l (k + 1) := by
  have hk : k < l.length := (List.getElem?_eq_some_iff.1 h2).1
  have hb : l[k] = b := by rw [List.getElem?_eq_getElem hk] at h2; injection h2
  unfold dgc bys
  rw [List.setIfInBounds_toArray]
  congr 1
  rw [show 32 - k = (32 - (k + 1)) + 1 by omega, List.replicate_succ]
  have e : (Value.int .u8 (b.toNat : Int)) = (fun b : UInt8 => Value.int .u8 (b.toNat : Int)) b := rfl
  rw [e, ← List.map_set]
  congr 1
  rw [List.set_append_right _ _ (by simp; omega)]
  simp only [List.length_take, show k - min k l.length = 0 by omega, List.set_cons_zero]
  rw [List.take_succ_eq_append_getElem hk, hb, List.append_assoc]
  rfl
theorem dgc_one (l : List UInt8) (k : Nat) : (dgc l k).all (·.oneCell') = true := by
  rw [Array.all_eq_true_iff_forall_mem]
  intro v hv
  exact bys_one _ v (by simpa [dgc] using hv)
theorem info_digest : (Tryz.prog.info? 27).map (·.size) = some 32 := by kernel_rfl
/-- the digest of a text: its first bytes, then bytes 0 -/
def dig (l : List UInt8) : List UInt8 := l.take 32 ++ List.replicate (32 - l.length) 0
theorem dig_length (l : List UInt8) : (dig l).length = 32 := by simp [dig]; omega
theorem dgc_end (l : List UInt8) (k : Nat) (h : k = min 32 l.length) : dgc l k = (bys (dig l)).toArray := by
  unfold dgc dig
  subst h
  rcases Nat.le_total 32 l.length with h | h
  · rw [show min 32 l.length = 32 by omega, show 32 - l.length = 0 by omega]
  · rw [show min 32 l.length = l.length by omega, List.take_of_length_le (i := 32) (by omega), List.take_of_length_le (Nat.le_refl _)]

end Go.Proofs.YthkfcfkkamffpaaGreat
