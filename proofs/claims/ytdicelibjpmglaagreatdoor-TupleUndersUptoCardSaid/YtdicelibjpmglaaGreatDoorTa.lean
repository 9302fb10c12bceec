/-
  Layer 3: items in memory; the program's clean, width, length, truth, key; the document's May, need, far, Bits, sorted.
-/
import Derived.Test.YtdicelibjpmglaaGreatDoorCore
import Derived.Test.YtdicelibjpmglaaGreatDoorTp
import Derived.Test.YtdicelibjpmglaaGreatDoorShelf
import Derived.WalkLawsBesides
namespace Go.Proofs.YtdicelibjpmglaaGreatDoor
open Go.RowKit
set_option linter.unusedVariables false
set_option linter.unusedSimpArgs false
open Tp (It)

/-- an item's value, its list's slice given -/
abbrev IV (k : Nat) (b : Bool) (n : Int) (f : Nat) (t : List UInt8) (v : Value) : Value := .agg #[.int .u8 k, .bool b, .int .i64 n, .float .f64 f, S t, v]
def icells (k : Nat) (b : Bool) (n : Int) (f : Nat) (t : List UInt8) (v : Value) : List Value := [.int .u8 k, .bool b, .int .i64 n, .float .f64 f, S t, v]
/-- what an item's own fields may hold -/
structure InIt (k : Nat) (n : Int) (f : Nat) (t : List UInt8) : Prop where
  k : k < 256
  n0 : -9223372036854775808 ≤ n
  n1 : n ≤ 9223372036854775807
  f : U64 f
  t : t.length ≤ 1048576
/-- a list of items in memory, all its blocks below B -/
inductive Row (w : World) (B : Nat) : Value → List It → Prop
  | nil (A : Option Addr) (cap : Nat) (hc1 : A = none → cap = 0) : Row w B (.slice A 0 cap) []
  | mk (g off cap : Nat) (l : List It) (vs : List Value) (hg : g < B) (hl : vs.length = l.length) (hcap : l.length ≤ cap) (hc1 : l.length ≤ 1048576)
      (hin : ∀ (k : Nat) (b : Bool) (n : Int) (f : Nat) (t : List UInt8) (ls : List It), It.mk k b n f t ls ∈ l → InIt k n f t)
      (hc : ∀ (i k : Nat) (b : Bool) (n : Int) (f : Nat) (t : List UInt8) (ls : List It) (v : Value), l[i]? = some (It.mk k b n f t ls) → vs[i]? = some v → ∀ (j : Nat) (u : Value), (icells k b n f t v)[j]? = some u → w.cell? ⟨g, off + i * 6 + j, none⟩ = some u)
      (hr : ∀ (i k : Nat) (b : Bool) (n : Int) (f : Nat) (t : List UInt8) (ls : List It) (v : Value), l[i]? = some (It.mk k b n f t ls) → vs[i]? = some v → Row w B v ls) : Row w B (.slice (some ⟨g, off, none⟩) l.length cap) l
theorem Row.keep {w w' : World} {B : Nat} {v : Value} {l : List It} (h : Row w B v l) (hc : ∀ p : Addr, p.block < B → w'.cell? p = w.cell? p) : Row w' B v l := by
  induction h with
  | nil A cap hc1 => exact .nil A cap hc1
  | mk g off cap l vs hg hl hcap hc1 hin hcs hr ih =>
    exact .mk g off cap l vs hg hl hcap hc1 hin (fun i k b n f t ls v h1 h2 j u hj => by rw [hc _ hg]; exact hcs i k b n f t ls v h1 h2 j u hj) (fun i k b n f t ls v h1 h2 => ih i k b n f t ls v h1 h2)
theorem Row.chg {w w' : World} {B : Nat} {v : Value} {l : List It} {Sx : Nat → Prop} (h : Row w B v l) (hB : B ≤ w.heap.size) (hc : Chg Sx w w') (hS : ∀ k, k < B → ¬ Sx k) : Row w' B v l :=
  h.keep fun p hp => hc.cell (Nat.lt_of_lt_of_le hp hB) (hS _ hp)
theorem Row.slice {w : World} {B : Nat} {v : Value} {l : List It} (h : Row w B v l) : ∃ A cap, v = .slice A l.length cap ∧ l.length ≤ cap ∧ l.length ≤ 1048576 := by
  cases h with
  | nil A cap hc1 => exact ⟨_, _, rfl, Nat.zero_le _, Nat.zero_le _⟩
  | mk g off cap l vs hg hl hcap hc1 hin hcs hr => exact ⟨_, _, rfl, hcap, hc1⟩

theorem ret_b {a b : Bool} (h : a = b) : Ending.returned (.bool a) = .returned (.bool b) := by rw [h]
theorem run_store_float {P : Program} {w : World} (a : Addr) (m : Mode) (k : FloatKind) (b : Nat) : (store a (.float k b) m).run P w = stored P w a (.float k b) m := run_store P w a _ m rfl
attribute [local go_sem] run_store_float
theorem fb_run (b : Nat) (w : World) : (Extern.MathFloatBits.float64bits #[.float .f64 b]).run Tryz.prog w = .ok (.int .u64 b) w := rfl

theorem truth_calls (b : Bool) (w : World) : Calls Tryz.prog 68 #[.bool b] w fun e w' => e = .returned (.int .i64 (Tp.tru b)) ∧ w = w' := by
  cases b
  all_goals
    go_enter Tryz.func68, Tryz.ntmps68
    go_wp2_with fail
    go_ret
    exact ⟨rfl, rfl⟩

theorem kindCases (k : Nat) : k = 2 ∨ k = 3 ∨ k = 4 ∨ k = 5 ∨ k = 6 ∨ (k ≠ 2 ∧ k ≠ 3 ∧ k ≠ 4 ∧ k ≠ 5 ∧ k ≠ 6 ∧ ((k : Int) == 2) = false ∧ ((k : Int) == 3) = false ∧ ((k : Int) == 4) = false ∧ ((k : Int) == 5) = false ∧ ((k : Int) == 6) = false) := by
  by_cases h2 : k = 2; exact .inl h2
  by_cases h3 : k = 3; exact .inr (.inl h3)
  by_cases h4 : k = 4; exact .inr (.inr (.inl h4))
  by_cases h5 : k = 5; exact .inr (.inr (.inr (.inl h5)))
  by_cases h6 : k = 6; exact .inr (.inr (.inr (.inr (.inl h6))))
  refine .inr (.inr (.inr (.inr (.inr ⟨h2, h3, h4, h5, h6, ?_, ?_, ?_, ?_, ?_⟩))))
  all_goals
    rw [beq_eq_false_iff_ne]
    omega
set_option maxHeartbeats 2000000 in
set_option maxRecDepth 100000 in
theorem clean_calls (k : Nat) (b : Bool) (n : Int) (f : Nat) (t : List UInt8) (A : Option Addr) (m cap : Nat) (ls : List It) (hls : ls.length = m) (w : World) :
    Calls Tryz.prog 90 #[IV k b n f t (.slice A m cap)] w fun e w' => e = .returned (.bool (Tp.cleanB k b n f t ls)) ∧ Chg (fun _ => False) w w' := by
  have h50 := @run_callFunc_extern Tryz.prog 61 _ Extern.MathFloatBits.float64bits Tryz.func61 (by kernel_rfl) (by kernel_rfl) (by kernel_rfl) (by kernel_rfl)
  have hfb := fb_run
  have Hle := Lib.hid (show ls.isEmpty = ((m : Int) == 0) by rw [← hls]; cases ls <;> simp; omega)
  clear hls
  rcases kindCases k with rfl | rfl | rfl | rfl | rfl | ⟨q2, q3, q4, q5, q6, e2, e3, e4, e5, e6⟩
  · skip
    go_enter Tryz.func90, Tryz.ntmps90
    go_wp2_with fail
    all_goals
      go_ret
      refine ⟨ret_b ?_, (Chg.refl _ w).alloc _⟩
      have hle := Hle.out
      simp_all [Tp.cleanB]
  · skip
    go_enter Tryz.func90, Tryz.ntmps90
    go_wp2_with fail
    all_goals
      go_ret
      refine ⟨ret_b ?_, (Chg.refl _ w).alloc _⟩
      have hle := Hle.out
      simp_all [Tp.cleanB]
  · skip
    go_enter Tryz.func90, Tryz.ntmps90
    go_wp2_with fail
    all_goals
      go_ret
      refine ⟨ret_b ?_, (Chg.refl _ w).alloc _⟩
      have hle := Hle.out
      simp_all [Tp.cleanB]
  · skip
    go_enter Tryz.func90, Tryz.ntmps90
    go_wp2_with fail
    all_goals
      go_ret
      refine ⟨ret_b ?_, (Chg.refl _ w).alloc _⟩
      have hle := Hle.out
      simp_all [Tp.cleanB]
  · skip
    go_enter Tryz.func90, Tryz.ntmps90
    go_wp2_with fail
    all_goals
      go_ret
      refine ⟨ret_b ?_, (Chg.refl _ w).alloc _⟩
      have hle := Hle.out
      simp_all [Tp.cleanB]
  · have Q := Lib.hid (show k ≠ 2 ∧ k ≠ 3 ∧ k ≠ 4 ∧ k ≠ 5 ∧ k ≠ 6 from ⟨q2, q3, q4, q5, q6⟩)
    clear q2 q3 q4 q5 q6
    go_enter Tryz.func90, Tryz.ntmps90
    go_wp2_with fail
    all_goals
      go_ret
      refine ⟨ret_b ?_, (Chg.refl _ w).alloc _⟩
      have hle := Hle.out
      obtain ⟨q2, q3, q4, q5, q6⟩ := Q.out
      simp_all [Tp.cleanB]
end Go.Proofs.YtdicelibjpmglaaGreatDoor
