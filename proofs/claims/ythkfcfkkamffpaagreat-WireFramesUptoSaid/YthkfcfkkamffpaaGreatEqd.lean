/-
  Arrays of bytes compared, and a whole array loaded inside a region that draws its order.
-/
import Derived.Test.YthkfcfkkamffpaaGreatDig
import Derived.Laws.StructEq
import Derived.Deep.RegionLaw
namespace Go.Proofs.YthkfcfkkamffpaaGreat
open Go.RowKit
set_option linter.unusedVariables false

theorem part_byte {P : Program} (w : World) (e : TypeId) (a : List UInt8) (i : Nat) (b : UInt8) (he : P.underlying e = some (.int .u8)) (h : a[i]? = some b) :
    (part e (bys a).toArray i).run P w = .ok (.int .u8 b.toNat) w := by
  have hc : (bys a)[i]? = some (.int .u8 b.toNat) := by simp [bys, h]
  simp [part, isAgg, run_underlying he, hc]
theorem run_equalIn_bytes0 {P : Program} (d : Nat) (t e : TypeId) (a b : List UInt8) (n : Nat) (ht : P.underlying t = some (.array n e)) (he : P.underlying e = some (.int .u8)) (hs : (P.info? e).map (·.size) = some 1) (ha : a.length = n) (hb : b.length = n)
    (heq : ∀ (x y : Int) (w : World), (Op.equalIn d e (.int .u8 x) (.int .u8 y)).run P w = .ok (x == y) w) (w : World) :
    (Op.equalIn (d + 1) t (.agg (bys a).toArray) (.agg (bys b).toArray)).run P w = .ok (a == b) w := by
  obtain ⟨i0, hi, hz⟩ : ∃ i0, P.info? e = some i0 ∧ i0.size = 1 := by
    cases h : P.info? e with
    | none => rw [h] at hs; simp at hs
    | some i0 => rw [h] at hs; simp at hs; exact ⟨i0, rfl, hs⟩
  simp only [Op.equalIn, Sem.run_bind, run_underlying ht, Result.andThen_ok]
  simp [sizeOf, typeInfo, hi, hz]
  generalize hL : List.range' 0 n = L
  have hL' : ∃ i, i ≤ n ∧ L = List.range' i (n - i) ∧ a.take i = b.take i := ⟨0, by omega, hL.symm, rfl⟩
  clear hL
  induction L with
  | nil =>
    obtain ⟨i, hin, hl, h⟩ := hL'
    have : n - i = 0 := by
      have := congrArg List.length hl
      simpa using this.symm
    rw [List.take_of_length_le (by omega), List.take_of_length_le (by omega)] at h
    subst h
    simp
  | cons z L ih =>
    obtain ⟨i, hin, hl, h⟩ := hL'
    obtain ⟨m, hm⟩ : ∃ m, n - i = m + 1 := ⟨n - i - 1, by have := congrArg List.length hl; simp at this; omega⟩
    rw [hm, List.range'_succ] at hl
    injection hl with hz hl
    subst hz
    obtain ⟨x, hx⟩ : ∃ x, a[z]? = some x := ⟨a[z]'(by omega), List.getElem?_eq_getElem _⟩
    obtain ⟨y, hy⟩ : ∃ y, b[z]? = some y := ⟨b[z]'(by omega), List.getElem?_eq_getElem _⟩
    rw [List.forIn_cons]
    simp only [Sem.run_bind, part_byte w e a z x he hx, part_byte w e b z y he hy, heq, Result.andThen_ok]
    by_cases hxy : x = y
    · subst hxy
      simp only [beq_self_eq_true, Bool.true_eq_false, if_false, Sem.run_pure, Result.andThen_ok]
      exact ih ⟨z + 1, by omega, by rw [hl, show n - (z + 1) = m by omega], by rw [List.take_add_one, List.take_add_one, h, hx, hy]⟩
    · have e1 : ((x.toNat : Int) == (y.toNat : Int)) = false := by
        rw [beq_eq_false_iff_ne]; intro h2; exact hxy (UInt8.toNat_inj.1 (by omega))
      have e2 : (a == b) = false := by
        rw [beq_eq_false_iff_ne]; intro h2; subst h2; rw [hx] at hy; injection hy with hy; exact hxy hy
      simp [e1, e2]
theorem run_equalIn_bytes {P : Program} (d : Nat) (t e : TypeId) (a b : List UInt8) (n : Nat) (ht : P.underlying t = some (.array n e)) (he : P.underlying e = some (.int .u8)) (hs : (P.info? e).map (·.size) = some 1) (ha : a.length = n) (hb : b.length = n) (w : World) :
    (Op.equalIn (d + 2) t (.agg (bys a).toArray) (.agg (bys b).toArray)).run P w = .ok (a == b) w :=
  run_equalIn_bytes0 (d + 1) t e a b n ht he hs ha hb (fun x y w => run_equalIn_int w d e .u8 .u8 x y he) w

theorem under_digest : Tryz.prog.underlying 27 = some (.array 32 5) := by kernel_rfl
theorem size_byte : (Tryz.prog.info? 5).map (·.size) = some 1 := by kernel_rfl
/-- two digests compared -/
theorem eql_digest (a b : List UInt8) (ha : a.length = 32) (hb : b.length = 32) (w : World) : (binOp .eql 27 (.agg (bys a).toArray) (.agg (bys b).toArray)).run Tryz.prog w = .ok (.bool (a == b)) w := by
  rw [run_eql_struct, run_equalIn_bytes 9998 _ 5 a b 32 under_digest Tryz.underlying5 size_byte ha hb w]
  rfl
theorem guard_digest : Tryz.prog.eqGuardType Tryz.prog.depth 27 = false := by kernel_rfl
/-- a whole digest loaded: a plain name, so that the walk does not take it apart (attribute [local go_sem ↓] loadDig_eq) -/
def loadDig (v : Value) : Sem Value := Instr.loadAt 27 v
theorem loadDig_eq (v : Value) : Instr.loadAt 27 v = loadDig v := rfl
theorem loadDig_of {w : World} {g : Nat} {cs : Array Value} (h : Blk w g 27 cs) (hs : cs.size = 32) : (loadDig (.pointer (some ⟨g, 0, none⟩))).run Tryz.prog w = .ok (.agg cs) w := by
  unfold loadDig
  simp only [Instr.loadAt, Instr.sureAddr, Sem.run_bind, Sem.run_pure, Result.andThen_ok, run_loadVar_row w g 27 27 cs (0, 0) _ h Tryz.underlying27 rfl (by rw [hs]; exact info_digest)]

/-- a digest l, of which the places n to k have become 0 -/
def dgz (l : List UInt8) (n k : Nat) : Array Value := (bys (l.take n ++ List.replicate (k - n) 0 ++ l.drop k)).toArray
theorem dgz_start (l : List UInt8) (n : Nat) : dgz l n n = (bys l).toArray := by simp [dgz]
theorem dgz_at (l : List UInt8) (n k : Nat) (h1 : n ≤ k) (h2 : k < l.length) : ∃ b : UInt8, (dgz l n k)[k]? = some (.int .u8 b.toNat) := by
  refine ⟨l[k], ?_⟩
  unfold dgz bys
  rw [List.getElem?_toArray, List.getElem?_map, List.getElem?_append_right (by simp; omega)]
  have e : k - (List.take n l ++ List.replicate (k - n) 0).length = 0 := by simp; omega
  rw [e, List.getElem?_drop, Nat.add_zero, List.getElem?_eq_getElem h2]
  rfl
theorem dgz_set (l : List UInt8) (n k : Nat) (h1 : n ≤ k) (h2 : k < l.length) : (dgz l n k).setIfInBounds k (.int .u8 0) = dgz l n (k + 1) := by
  unfold dgz bys
  rw [List.setIfInBounds_toArray]
  congr 1
  have e : (Value.int .u8 0) = (fun b : UInt8 => Value.int .u8 (b.toNat : Int)) 0 := rfl
  rw [e, ← List.map_set]
  congr 1
  have e1 : (List.take n l ++ List.replicate (k - n) 0).length = k := by simp; omega
  rw [List.set_append_right _ _ (by omega), e1, Nat.sub_self, List.drop_eq_getElem_cons h2, List.set_cons_zero, show k + 1 - n = (k - n) + 1 by omega, List.replicate_succ']
  simp
theorem dgz_end (l : List UInt8) (n : Nat) (hl : l.length = 32) (hn : n ≤ 32) : dgz l n 32 = (bys (dig (l.take n))).toArray := by
  unfold dgz dig
  rw [List.drop_of_length_le (by omega), List.append_nil, List.take_of_length_le (i := 32) (by simp; omega)]
  congr 4
  simp
  omega
theorem dig_one (l : List UInt8) : (bys l).toArray.all (·.oneCell') = true := by
  rw [Array.all_eq_true_iff_forall_mem]
  intro v hv
  exact bys_one _ v (by simpa using hv)
end Go.Proofs.YthkfcfkkamffpaaGreat
