/-
  pack.Reader: what its methods do to the memory, each once: dead, fail, Left, At, Open.
-/
import Derived.Test.YtlhdbkbgedlmnaaDoorWt
import Derived.BigQuiet
import Derived.Deep.QuietTactic
namespace Go.Proofs.YtlhdbkbgedlmnaaDoor
open Go.RowKit
set_option linter.unusedVariables false

/-- Block g is a Reader in the state r. -/
structure IsR (w : World) (g : Nat) (r : Pk.Rd) : Prop where
  blk : Blk w g 118 #[.bool true, S r.s, .int .i64 r.pos, .int .i64 r.f]
  le : r.pos ≤ r.s.length
  len : r.s.length ≤ 140737488355328
/-- From w to w' the Reader g alone has turned, to r. -/
def Red (w w' : World) (g : Nat) (r : Pk.Rd) : Prop := IsR w' g r ∧ Chg (fun k => k = g) w w'
theorem IsR.chg {S : Nat → Prop} {w w' : World} {g : Nat} {r : Pk.Rd} (h : IsR w g r) (hc : Chg S w w') (hn : ¬ S g) : IsR w' g r := ⟨h.blk.chg hc hn, h.le, h.len⟩
theorem IsR.alloc {w : World} {g : Nat} {r : Pk.Rd} (h : IsR w g r) (o : Obj) : IsR (w.alloc o) g r := ⟨h.blk.alloc o, h.le, h.len⟩
theorem IsR.drewN {w : World} {g : Nat} {r : Pk.Rd} (h : IsR w g r) (n : Nat) : IsR (w.drewN n) g r := ⟨h.blk.drewN n, h.le, h.len⟩
theorem Red.refl {w : World} {g : Nat} {r : Pk.Rd} (h : IsR w g r) : Red w w g r := ⟨h, Chg.refl _ _⟩
theorem Red.trans {w w1 w2 : World} {g : Nat} {r r' : Pk.Rd} (h : Chg (fun k => k = g) w w1) (k : Red w1 w2 g r') : Red w w2 g r' := ⟨k.1, h.trans k.2⟩
theorem Red.drewN {w w' : World} {g : Nat} {r : Pk.Rd} {n : Nat} (h : Red (w.drewN n) w' g r) : Red w w' g r := ⟨h.1, ((Chg.refl _ w).drewN n).trans h.2⟩
theorem IsR.c0 {w : World} {g : Nat} {r : Pk.Rd} (h : IsR w g r) : w.cell? ⟨g, 0, none⟩ = some (.bool true) := by rw [h.blk.cell]; rfl
theorem IsR.c1 {w : World} {g : Nat} {r : Pk.Rd} (h : IsR w g r) : w.cell? ⟨g, 1, none⟩ = some (S r.s) := by rw [h.blk.cell]; rfl
theorem IsR.c2 {w : World} {g : Nat} {r : Pk.Rd} (h : IsR w g r) : w.cell? ⟨g, 2, none⟩ = some (.int .i64 r.pos) := by rw [h.blk.cell]; rfl
theorem IsR.c3 {w : World} {g : Nat} {r : Pk.Rd} (h : IsR w g r) : w.cell? ⟨g, 3, none⟩ = some (.int .i64 r.f) := by rw [h.blk.cell]; rfl

set_option maxHeartbeats 400000 in
set_option maxRecDepth 100000 in
theorem open_calls (l : List UInt8) (w : World) (hl : l.length ≤ 140737488355328) :
    Calls Tryd.prog 51 #[S l] w fun e w' => e = .returned (.pointer (some ⟨w.heap.size, 0, none⟩)) ∧ IsR w' w.heap.size ⟨l, 0, 0⟩ ∧ Below w.heap.size w w' ∧ w'.heap.size = w.heap.size + 1 := by
  go_enter Tryd.func51, Tryd.ntmps51
  go_wp2_with fail
  go_ret
  exact ⟨rfl, ⟨Blk.new _ _ _, Nat.zero_le _, hl⟩, (Below.refl _ _).alloc (Nat.le_refl _) _, by simp⟩

set_option maxHeartbeats 400000 in
set_option maxRecDepth 100000 in
theorem dead_no (g : Nat) (r : Pk.Rd) (w : World) (h : IsR w g r) (hf : r.f = 0) :
    Calls Tryd.prog 75 #[.pointer (some ⟨g, 0, none⟩)] w fun e w' => e = .returned (.bool false) ∧ w = w' := by
  have c0 := h.c0
  have c3 : w.cell? ⟨g, 3, none⟩ = some (.int .i64 0) := by rw [h.c3, hf]; rfl
  clear hf
  go_enter Tryd.func75, Tryd.ntmps75
  go_wp2_with fail
  go_ret
  exact ⟨rfl, rfl⟩
set_option maxHeartbeats 400000 in
set_option maxRecDepth 100000 in
theorem dead_yes (g : Nat) (r : Pk.Rd) (w : World) (h : IsR w g r) (hf : r.f ≠ 0) :
    Calls Tryd.prog 75 #[.pointer (some ⟨g, 0, none⟩)] w fun e w' => e = .returned (.bool true) ∧ w = w' := by
  have c0 := h.c0
  have c3 := h.c3
  have hne : ((r.f : Int) != 0) = true := by simpa using hf
  clear hf
  go_enter Tryd.func75, Tryd.ntmps75
  go_wp2_with fail
  go_ret
  exact ⟨rfl, rfl⟩
set_option maxHeartbeats 400000 in
set_option maxRecDepth 100000 in
theorem fail_calls (g : Nat) (r : Pk.Rd) (ci : Int) (c p : Nat) (w : World) (hci : ci = c) (h : IsR w g r) (hp : p ≤ r.s.length) :
    Calls Tryd.prog 77 #[.pointer (some ⟨g, 0, none⟩), .int .i64 ci, .int .i64 p] w fun e w' => e = .returned (.tuple #[]) ∧ Red w w' g ⟨r.s, p, c⟩ := by
  have c2 := h.c2
  have c3 := h.c3
  have f2 := h.blk.frozen 2
  have f3 := h.blk.frozen 3
  subst hci
  go_enter Tryd.func77, Tryd.ntmps77
  go_wp2_with fail
  go_end0
  exact ⟨rfl, ⟨(h.blk.set_ 3 _).set_ 2 _, hp, h.len⟩, Chg.setCell (p := ⟨g, 2, none⟩) (Chg.setCell (p := ⟨g, 3, none⟩) (Chg.refl (fun k => k = g) w) (.inl rfl) _) (.inl rfl) _⟩
set_option maxHeartbeats 400000 in
set_option maxRecDepth 100000 in
theorem left_calls (g : Nat) (r : Pk.Rd) (w : World) (h : IsR w g r) :
    Calls Tryd.prog 76 #[.pointer (some ⟨g, 0, none⟩)] w fun e w' => e = .returned (.int .i64 r.left) ∧ ∃ n, w' = w.drewN n := by
  have c1 := h.c1
  have c2 := h.c2
  have le := h.le
  have len := h.len
  go_enter Tryd.func76, Tryd.ntmps76
  go_wp2_with fail
  go_quiet (fail)
  go_wp2_with fail
  go_ret
  exact ⟨ret_int (by unfold Pk.Rd.left; omega), nq, rfl⟩
theorem pow128 (i : Nat) : (128 : Nat) ^ i = 2 ^ (7 * i) := by rw [Nat.pow_mul]
theorem acc_bits (n i b : Nat) (hi : i ≤ 9) (hn : n < 128 ^ i) (hb : b < 256) (h9 : i = 9 → b ≤ 1) :
    bits BinOp.or IntKind.u64 (n : Int) (IntKind.u64.wrap (IntKind.u64.wrap (bits BinOp.and IntKind.u8 (b : Int) 127) * 2 ^ (7 * i))) = ((n + b % 128 * 128 ^ i : Nat) : Int) ∧ n + b % 128 * 128 ^ i < 128 ^ (i + 1) := by
  have e1 : bits BinOp.and IntKind.u8 (b : Int) 127 = ((b % 128 : Nat) : Int) := by
    refine (u8_and_nat b 127 hb (by omega)).trans ?_
    rw [show (127 : Nat) = 2 ^ 7 - 1 from rfl, Nat.and_two_pow_sub_one_eq_mod]
  have hlt : n + b % 128 * 128 ^ i < 128 ^ (i + 1) := by
    have h1 : b % 128 * 128 ^ i ≤ 127 * 128 ^ i := Nat.mul_le_mul_right _ (by omega)
    rw [Nat.pow_succ]
    omega
  refine ⟨?_, hlt⟩
  have h64 : n + b % 128 * 128 ^ i < 18446744073709551616 := by
    rcases Nat.lt_or_ge i 9 with h | h
    · have h2 : 128 ^ (i + 1) ≤ 128 ^ 9 := Nat.pow_le_pow_right (by decide) (by omega)
      rw [Pk.pow9] at h2
      omega
    · obtain rfl : i = 9 := by omega
      have := h9 rfl
      rw [Pk.pow9] at *
      have h3 : b % 128 * 9223372036854775808 ≤ 1 * 9223372036854775808 := Nat.mul_le_mul_right _ (by omega)
      omega
  rw [e1, IntKind.wrap_u64, IntKind.wrap_u64]
  have e2 : ((b % 128 : Nat) : Int) % 18446744073709551616 * 2 ^ (7 * i) % 18446744073709551616 = ((b % 128 * 128 ^ i : Nat) : Int) := by
    have e0 : ((b % 128 : Nat) : Int) % 18446744073709551616 = ((b % 128 : Nat) : Int) := by omega
    have e3 : ((b % 128 : Nat) : Int) * 2 ^ (7 * i) = ((b % 128 * 2 ^ (7 * i) : Nat) : Int) := by simp
    rw [e0, e3, ← pow128]
    exact Int.emod_eq_of_lt (by omega) (by omega)
  rw [e2]
  refine (u64_or_nat n (b % 128 * 128 ^ i) (by omega) (by omega)).trans ?_
  rw [pow128] at *
  have := Nat.two_pow_add_eq_or_of_lt hn (b % 128)
  rw [Nat.or_comm, Nat.mul_comm (b % 128), ← this, Nat.add_comm]
end Go.Proofs.YtlhdbkbgedlmnaaDoor
