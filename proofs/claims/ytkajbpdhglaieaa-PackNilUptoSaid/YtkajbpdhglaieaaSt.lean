/-
  A Step of the pack statements: its value, its lists in the memory, its bytes.
-/
import Derived.Test.YtkajbpdhglaieaaLay
import Derived.Test.YtkajbpdhglaieaaApart
import Derived.Test.YtkajbpdhglaieaaPut8
namespace Go.Proofs.Ytkajbpdhglaieaa
open Go.RowKit
set_option linter.unusedVariables false

structure St where
  kind : Int
  n : Nat
  i : Int
  s : List UInt8
  A : Option Addr
  an : Nat
  ac : Nat
  parts : List (List UInt8)
  B : Option Addr
  bn : Nat
  bc : Nat
  ns : List Nat
  width : Int
  most : Nat
  bound : Int
/-- numbers as the cells of a list -/
def u64s (l : List Nat) : List Value := l.map fun n : Nat => Value.int .u64 (n : Int)
def St.cells (x : St) : Array Value := #[.int .i64 x.kind, .int .u64 x.n, .int .i64 x.i, S x.s, .slice x.A x.an x.ac, .slice x.B x.bn x.bc, .int .i64 x.width, .int .u64 x.most, .int .i64 x.bound]
structure St.Ok (x : St) (w : World) : Prop where
  n : U64 x.n
  i : I64 x.i
  kind : I64 x.kind
  width : I64 x.width
  most : U64 x.most
  bound : I64 x.bound
  A : Lst w x.A x.an (strs x.parts)
  B : Lst w x.B x.bn (u64s x.ns)
  ns : ∀ n ∈ x.ns, U64 n
  room : x.s.length + (x.an + x.parts.flatten.length) + x.bn ≤ 4194304
theorem St.Ok.pl {x : St} {w : World} (h : x.Ok w) : x.parts.length = x.an := by have := h.A.1; simpa [strs] using this
theorem St.Ok.nl {x : St} {w : World} (h : x.Ok w) : x.ns.length = x.bn := by have := h.B.1; simpa [u64s] using this
/-- neither of the Step's lists lies in block g or in the block of v -/
structure St.Far (x : St) (g : Nat) (v : Value) : Prop where
  A : 0 < x.an → ∀ ad, x.A = some ad → ad.block ≠ g ∧ v.ownBlock ≠ some ad.block
  B : 0 < x.bn → ∀ ad, x.B = some ad → ad.block ≠ g ∧ v.ownBlock ≠ some ad.block

theorem IsW.alloc {w : World} {g : Nat} {v : Value} {xs : List UInt8} (h : IsW w g v xs) (o : Obj) : IsW (w.alloc o) g v xs := ⟨h.blk.alloc o, h.own.alloc o⟩
theorem IsW.chg {w w' : World} {g : Nat} {v : Value} {xs : List UInt8} (h : IsW w g v xs) (hc : Chg (fun _ => False) w w') : IsW w' g v xs := ⟨h.blk.chg hc (fun h => h), own_chg h.own hc (fun _ _ h => h)⟩
theorem Lst.alloc {w : World} {A : Option Addr} {n : Nat} {xs : List Value} (h : Lst w A n xs) (o : Obj) : Lst (w.alloc o) A n xs := h.chg ((Chg.refl (fun _ => False) w).alloc o) (fun _ _ _ h => h)
theorem Wrote.of_alloc {w w' : World} {g : Nat} {v : Value} {ys : List UInt8} {o : Obj} (h : Wrote (w.alloc o) w' g v ys) : Wrote w w' g v ys := by
  obtain ⟨v', h1, c1, o1⟩ := h
  refine ⟨v', h1, ((Chg.refl _ w).alloc o).trans c1, fun k hk => ?_⟩
  rcases o1 k hk with h | h
  · exact .inl h
  · right; simp at h; omega
theorem Wrote.of_chg {w w1 w' : World} {g : Nat} {v : Value} {ys : List UInt8} (h : Wrote w1 w' g v ys) (hc : Chg (fun _ => False) w w1) : Wrote w w' g v ys := by
  obtain ⟨v', h1, c1, o1⟩ := h
  refine ⟨v', h1, (hc.mono (fun _ _ h => h.elim)).trans c1, fun k hk => ?_⟩
  rcases o1 k hk with h | h
  · exact .inl h
  · right; have := hc.size; omega
theorem Wrote.cast {w w' : World} {g : Nat} {v : Value} {ys zs : List UInt8} (h : Wrote w w' g v ys) (e : ys = zs) : Wrote w w' g v zs := e ▸ h

namespace Pk
theorem be_add (k : Nat) : ∀ (x m : Int), be k (x + m * 256 ^ k) = be k x := by
  induction k with
  | zero => intro x m; rfl
  | succ k ih =>
    intro x m
    have hp : (0 : Int) < 256 ^ k := Int.pow_pos (by omega)
    have e1 : x + m * 256 ^ (k + 1) = x + (m * 256) * 256 ^ k := by rw [Int.pow_succ, Int.mul_comm (256 ^ k) 256, ← Int.mul_assoc]
    simp only [be]
    rw [e1, ih, Int.add_mul_ediv_right _ _ (by omega)]
    congr 3
    omega
theorem be_cong {k : Nat} {x y : Int} (m : Int) (h : y = x + m * 256 ^ k) : be k y = be k x := by rw [h, be_add]
end Pk
theorem be_uint8 (n : Nat) : Pk.be 1 ((n : Int) % 256) = Pk.be 1 n := Pk.be_cong (-((n : Int) / 256)) (by simp; omega)
theorem be_uint16 (n : Nat) : Pk.be 2 (IntKind.u16.wrap n) = Pk.be 2 n := Pk.be_cong (-((n : Int) / 65536)) (by simp [IntKind.wrap, IntKind.bits, IntKind.signed]; omega)
theorem be_shade (n : Nat) : Pk.be 2 (IntKind.u16.wrap n) = Pk.be 2 n := be_uint16 n
theorem be_uint32 (n : Nat) : Pk.be 4 ((n : Int) % 4294967296) = Pk.be 4 n := Pk.be_cong (-((n : Int) / 4294967296)) (by simp; omega)
theorem be_int8 (n : Nat) : Pk.be 1 (IntKind.i8.wrap n) = Pk.be 1 n := Pk.be_cong (-(((n : Int) + 128) / 256)) (by simp [IntKind.wrap, IntKind.bits, IntKind.signed]; omega)
theorem be_int16 (n : Nat) : Pk.be 2 (IntKind.i16.wrap n) = Pk.be 2 n := Pk.be_cong (-(((n : Int) + 32768) / 65536)) (by simp [IntKind.wrap, IntKind.bits, IntKind.signed]; omega)
theorem be_int32 (n : Nat) : Pk.be 4 (wrap32 n) = Pk.be 4 n := Pk.be_cong (-(((n : Int) + 2147483648) / 4294967296)) (by simp [wrap32]; omega)
theorem be_int64 (n : Nat) : Pk.be 8 (wrap64 n) = Pk.be 8 n := Pk.be_cong (-(((n : Int) + 9223372036854775808) / 18446744073709551616)) (by simp [wrap64]; omega)
end Go.Proofs.Ytkajbpdhglaieaa
