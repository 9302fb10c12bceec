/-
  Fixed numbers without a sign stand, byte by byte, as the numbers do: the plain law, and the walk of PackOrder. Printed by gen_order.py.
-/
import Derived.Test.YtkajbpdhglaieaaStep
namespace Go.Proofs.Ytkajbpdhglaieaa
open Go.RowKit
set_option linter.unusedVariables false

namespace Pk
theorem be_less (k : Nat) : ∀ (x y : Nat), x < 256 ^ k → y < 256 ^ k → (Op.bytesLess (be k x) (be k y) = decide ((x : Int) < y)) ∧ ((be k x == be k y) = ((x : Int) == y)) := by
  induction k with
  | zero =>
    intro x y hx hy
    simp at hx hy
    subst hx hy
    simp [be, Op.bytesLess]
  | succ k ih =>
    intro x y hx hy
    have hp : 0 < 256 ^ k := Nat.pow_pos (by omega)
    rw [Nat.pow_succ] at hx hy
    have qx : x / 256 ^ k < 256 := Nat.div_lt_of_lt_mul hx
    have qy : y / 256 ^ k < 256 := Nat.div_lt_of_lt_mul hy
    have ex : ((x : Int) / 256 ^ k % 256).toNat = x / 256 ^ k := by
      have h : (x : Int) / 256 ^ k = ((x / 256 ^ k : Nat) : Int) := by simp
      rw [h]
      generalize x / 256 ^ k = q at qx ⊢
      clear h
      omega
    have ey : ((y : Int) / 256 ^ k % 256).toNat = y / 256 ^ k := by
      have h : (y : Int) / 256 ^ k = ((y / 256 ^ k : Nat) : Int) := by simp
      rw [h]
      generalize y / 256 ^ k = q at qy ⊢
      clear h
      omega
    have mx : be k x = be k ((x % 256 ^ k : Nat) : Int) := by
      refine be_cong ((x / 256 ^ k : Nat) : Int) ?_
      have := Nat.mod_add_div x (256 ^ k)
      rw [Nat.mul_comm] at this
      have e : (x : Int) = ((x % 256 ^ k + x / 256 ^ k * 256 ^ k : Nat) : Int) := by rw [this]
      rw [e, Int.natCast_add, Int.natCast_mul, Int.natCast_pow]; rfl
    have my : be k y = be k ((y % 256 ^ k : Nat) : Int) := by
      refine be_cong ((y / 256 ^ k : Nat) : Int) ?_
      have := Nat.mod_add_div y (256 ^ k)
      rw [Nat.mul_comm] at this
      have e : (y : Int) = ((y % 256 ^ k + y / 256 ^ k * 256 ^ k : Nat) : Int) := by rw [this]
      rw [e, Int.natCast_add, Int.natCast_mul, Int.natCast_pow]; rfl
    obtain ⟨h1, h2⟩ := ih _ _ (Nat.mod_lt x hp) (Nat.mod_lt y hp)
    simp only [be]
    rw [ex, ey, mx, my]
    have dx := Nat.mod_add_div x (256 ^ k)
    have dy := Nat.mod_add_div y (256 ^ k)
    have rx := Nat.mod_lt x hp
    have ry := Nat.mod_lt y hp
    generalize x / 256 ^ k = a at *
    generalize y / 256 ^ k = b at *
    generalize x % 256 ^ k = c at *
    generalize y % 256 ^ k = d at *
    generalize 256 ^ k = m at *
    have ha : (UInt8.ofNat a).toNat = a := by simp; omega
    have hb : (UInt8.ofNat b).toNat = b := by simp; omega
    have lt : decide (UInt8.ofNat a < UInt8.ofNat b) = decide (a < b) := by simp only [UInt8.lt_iff_toNat_lt, ha, hb]
    have eq : (UInt8.ofNat a == UInt8.ofNat b) = decide (a = b) := by
      rw [Bool.eq_iff_iff, beq_iff_eq, decide_eq_true_iff, ← UInt8.toNat_inj, ha, hb]
    have hmul : a < b → m * (a + 1) ≤ m * b := fun h => Nat.mul_le_mul_left m h
    have hmul2 : b < a → m * (b + 1) ≤ m * a := fun h => Nat.mul_le_mul_left m h
    rw [Nat.mul_succ] at hmul hmul2
    constructor
    · rw [Op.bytesLess, lt, eq, h1]
      rw [Bool.eq_iff_iff]
      simp only [Bool.or_eq_true, Bool.and_eq_true, decide_eq_true_eq]
      rcases Nat.lt_trichotomy a b with h | h | h
      · have := hmul h; omega
      · subst h; omega
      · have := hmul2 h; omega
    · show ((UInt8.ofNat a == UInt8.ofNat b) && (be k c == be k d)) = _
      rw [eq, h2, Bool.eq_iff_iff]
      simp only [Bool.and_eq_true, decide_eq_true_eq, beq_iff_eq]
      rcases Nat.lt_trichotomy a b with h | h | h
      · have := hmul h; omega
      · subst h; omega
      · have := hmul2 h; omega
end Pk
theorem I64_0 : I64 0 := ⟨by decide, by decide⟩
theorem U64_0 : U64 0 := by unfold U64; decide
theorem lay_fixed (g : Nat) (K : Int) (k : Nat) (hK : K = k) (hk : k ≤ 3) (xi : Int) (n : Nat) (hxi : xi = n) (hn : U64 n) (v : Value) (xs : List UInt8) (w : World) (h : IsW w g v xs) (hroom : xs.length ≤ 140737488353000) :
    Calls Try.prog 18 #[.pointer (some ⟨g, 0, none⟩), .agg #[.int .i64 K, .int .u64 xi, .int .i64 0, .string ⟨#[]⟩, .slice none 0 0, .slice none 0 0, .int .i64 0, .int .u64 0, .int .i64 0]] w fun e w' => e = .returned (.tuple #[]) ∧ Wrote w w' g v (xs ++ Pk.be (2 ^ k) n) := by
  subst hK hxi
  have hb : (St.mk k n 0 [] none 0 0 [] none 0 0 [] 0 0 0).bytes = Pk.be (2 ^ k) n := by
    match k, hk with
    | 0, _ => rfl
    | 1, _ => rfl
    | 2, _ => rfl
    | 3, _ => rfl
    | _ + 4, h => exact absurd h (by omega)
  have hl : (Pk.be (2 ^ k) n).length ≤ 8 := by
    rw [Pk.be_length]
    match k, hk with
    | 0, _ => decide
    | 1, _ => decide
    | 2, _ => decide
    | 3, _ => decide
    | _ + 4, h => exact absurd h (by omega)
  rw [← hb]
  refine lay_calls g (St.mk k n 0 [] none 0 0 [] none 0 0 [] 0 0 0) v xs w h ⟨hn, I64_0, ?_, I64_0, U64_0, I64_0, Lst.none_ _ _, Lst.none_ _ _, by simp, by simp⟩ ⟨fun h => absurd h (by simp), fun h => absurd h (by simp)⟩ (by rw [hb]; omega)
  unfold I64; dsimp only; omega

set_option maxHeartbeats 4000000 in
set_option maxRecDepth 100000 in
theorem order_walk (a b : Nat) (w : World) (ha : U64 a) (hb : U64 b) :
    Calls Try.prog 5 #[.int .u64 a, .int .u64 b] w fun e w' => e = .returned (.bool true) ∧ Chg (fun _ => False) w w' := by
  go_enter Try.func5, Try.ntmps5
  go_wp2_with fail
  go_loopw [7, 8, 9, 10, 11] (fun iv _ _ _ _ wr => ∃ k : Nat, k ≤ 4 ∧ iv = .int .i64 k ∧ Blk wr w.heap.size 3 #[.int .i64 8, .int .i64 16, .int .i64 32] ∧ Blk wr (w.heap.size + 1) 3 #[.int .i64 0, .int .i64 1, .int .i64 2, .int .i64 3] ∧ Chg (fun _ => False) w wr) (fun iv _ _ _ _ _ => 4 - (intOf iv).toNat)
  case atStart => exact ⟨0, by omega, rfl, (Blk.new w _ _).alloc _, by have := Blk.new (w.alloc (.cells #[.int .i64 8, .int .i64 16, .int .i64 32] 3)) 3 #[.int .i64 0, .int .i64 1, .int .i64 2, .int .i64 3]; simpa using this, ((Chg.refl _ w).alloc _).alloc _⟩
  case round =>
    obtain ⟨k, hk, rfl, hs, hks, hc⟩ := hrel
    have hk4 : k = 0 ∨ k = 1 ∨ k = 2 ∨ k = 3 ∨ k = 4 := by omega
    rcases hk4 with rfl | rfl | rfl | rfl | rfl
    · go_wp2_with fail
      refine (new_calls wr).mono ?_
      rintro e w1 ⟨rfl, h1, hb1, hz1⟩
      have c1 := Chg.of_below hb1 (fun _ => False)
      have m1 : Mine wr w1 wr.heap.size (.slice none 0 0) [] := ⟨h1, c1, Nat.le_refl _, fun k h => (own_none k h).elim⟩
      clear h1 hb1
      obtain ⟨g1, hg1⟩ : ∃ g, wr.heap.size = g := ⟨_, rfl⟩
      have hg1' : g1 < w1.heap.size := by omega
      rw [hg1] at m1 ⊢
      go_wp2_with fail
      refine (new_calls w1).mono ?_
      rintro e w2 ⟨rfl, h2, hb2, hz2⟩
      have c2 := Chg.of_below hb2 (fun _ => False)
      have m2 : Mine wr w2 w1.heap.size (.slice none 0 0) [] := ⟨h2, c1.trans c2, m1.chg.size, fun k h => (own_none k h).elim⟩
      have m1 := m1.below c2
      obtain ⟨g2, hg2⟩ : ∃ g, w1.heap.size = g := ⟨_, rfl⟩
      rw [hg2] at m2 hg1' hz2 ⊢
      have n12 : g1 ≠ g2 := by omega
      have Hg := Lib.hid (And.intro hg1 (And.intro hg2 (And.intro hz1 hz2)))
      clear h2 hb2 hz2 hz1 hg1 hg2 hg1'
      have kc : w2.cell? ⟨w.heap.size + 1, 0, none⟩ = some (.int .i64 0) := by rw [(hks.chg m1.chg (fun h => h)).cell]; rfl
      have sc : w2.cell? ⟨w.heap.size, 0, none⟩ = some (.int .i64 8) := by rw [(hs.chg m1.chg (fun h => h)).cell]; rfl
      go_wp2_with fail
      refine (lay_fixed g1 0 0 rfl (by omega) ((a : Int) % 256) (a % 256) (by omega) (by unfold U64 at *; omega) _ [] w2 m1.is (by simp)).mono ?_
      rintro e w3 ⟨rfl, hw⟩
      have m2 := m2.keep m1 hw n12 (fun k h => (own_none k h).elim)
      obtain ⟨v1, m1⟩ := m1.wrote hw
      clear hw kc
      have kc : w3.cell? ⟨w.heap.size + 1, 0, none⟩ = some (.int .i64 0) := by rw [(hks.chg m1.chg (fun h => h)).cell]; rfl
      go_wp2_with fail
      refine (lay_fixed g2 0 0 rfl (by omega) ((b : Int) % 256) (b % 256) (by omega) (by unfold U64 at *; omega) _ [] w3 m2.is (by simp)).mono ?_
      rintro e w4 ⟨rfl, hw⟩
      have m1 := m1.keep m2 hw (Ne.symm n12) (fun k h => (own_none k h).elim)
      obtain ⟨v2, m2⟩ := m2.wrote hw
      obtain ⟨f1, f2⟩ := Pk.be_less (2 ^ 0) (a % 256) (b % 256) (by unfold U64 at *; omega) (by unfold U64 at *; omega)
      simp only [Int.natCast_emod, Int.cast_ofNat_Int] at f1 f2
      obtain ⟨β1, hβ1⟩ : ∃ β, decide ((a : Int) % 256 < (b : Int) % 256) = β := ⟨_, rfl⟩
      obtain ⟨β2, hβ2⟩ : ∃ β, (((a : Int) % 256) == ((b : Int) % 256)) = β := ⟨_, rfl⟩
      rw [hβ1] at f1
      rw [hβ2] at f2
      have s1 := m1.is
      have s2 := m2.is
      have hcc := m1.chg
      simp only [List.nil_append] at s1 s2
      clear hw kc m1 m2
      go_wp2_with fail
      refine (string_calls g1 v1 _ w4 s1).mono ?_
      rintro e w' ⟨rfl, rfl⟩
      go_wp2_with fail
      refine (string_calls g2 v2 _ w4 s2).mono ?_
      rintro e w' ⟨rfl, rfl⟩
      go_wp2_with fail
      refine (string_calls g1 v1 _ w4 s1).mono ?_
      rintro e w' ⟨rfl, rfl⟩
      go_wp2_with fail
      refine (string_calls g2 v2 _ w4 s2).mono ?_
      rintro e w' ⟨rfl, rfl⟩
      go_wp2_with fail
      go_roundw
      case rel => exact ⟨1, by omega, rfl, hs.chg hcc (fun h => h), hks.chg hcc (fun h => h), hc.trans hcc⟩
      case measure => simp [intOf]
    · go_wp2_with fail
      refine (new_calls wr).mono ?_
      rintro e w1 ⟨rfl, h1, hb1, hz1⟩
      have c1 := Chg.of_below hb1 (fun _ => False)
      have m1 : Mine wr w1 wr.heap.size (.slice none 0 0) [] := ⟨h1, c1, Nat.le_refl _, fun k h => (own_none k h).elim⟩
      clear h1 hb1
      obtain ⟨g1, hg1⟩ : ∃ g, wr.heap.size = g := ⟨_, rfl⟩
      have hg1' : g1 < w1.heap.size := by omega
      rw [hg1] at m1 ⊢
      go_wp2_with fail
      refine (new_calls w1).mono ?_
      rintro e w2 ⟨rfl, h2, hb2, hz2⟩
      have c2 := Chg.of_below hb2 (fun _ => False)
      have m2 : Mine wr w2 w1.heap.size (.slice none 0 0) [] := ⟨h2, c1.trans c2, m1.chg.size, fun k h => (own_none k h).elim⟩
      have m1 := m1.below c2
      obtain ⟨g2, hg2⟩ : ∃ g, w1.heap.size = g := ⟨_, rfl⟩
      rw [hg2] at m2 hg1' hz2 ⊢
      have n12 : g1 ≠ g2 := by omega
      have Hg := Lib.hid (And.intro hg1 (And.intro hg2 (And.intro hz1 hz2)))
      clear h2 hb2 hz2 hz1 hg1 hg2 hg1'
      have kc : w2.cell? ⟨w.heap.size + 1, 1, none⟩ = some (.int .i64 1) := by rw [(hks.chg m1.chg (fun h => h)).cell]; rfl
      have sc : w2.cell? ⟨w.heap.size, 1, none⟩ = some (.int .i64 16) := by rw [(hs.chg m1.chg (fun h => h)).cell]; rfl
      go_wp2_with fail
      refine (lay_fixed g1 1 1 rfl (by omega) ((a : Int) % 65536) (a % 65536) (by omega) (by unfold U64 at *; omega) _ [] w2 m1.is (by simp)).mono ?_
      rintro e w3 ⟨rfl, hw⟩
      have m2 := m2.keep m1 hw n12 (fun k h => (own_none k h).elim)
      obtain ⟨v1, m1⟩ := m1.wrote hw
      clear hw kc
      have kc : w3.cell? ⟨w.heap.size + 1, 1, none⟩ = some (.int .i64 1) := by rw [(hks.chg m1.chg (fun h => h)).cell]; rfl
      go_wp2_with fail
      refine (lay_fixed g2 1 1 rfl (by omega) ((b : Int) % 65536) (b % 65536) (by omega) (by unfold U64 at *; omega) _ [] w3 m2.is (by simp)).mono ?_
      rintro e w4 ⟨rfl, hw⟩
      have m1 := m1.keep m2 hw (Ne.symm n12) (fun k h => (own_none k h).elim)
      obtain ⟨v2, m2⟩ := m2.wrote hw
      obtain ⟨f1, f2⟩ := Pk.be_less (2 ^ 1) (a % 65536) (b % 65536) (by unfold U64 at *; omega) (by unfold U64 at *; omega)
      simp only [Int.natCast_emod, Int.cast_ofNat_Int] at f1 f2
      obtain ⟨β1, hβ1⟩ : ∃ β, decide ((a : Int) % 65536 < (b : Int) % 65536) = β := ⟨_, rfl⟩
      obtain ⟨β2, hβ2⟩ : ∃ β, (((a : Int) % 65536) == ((b : Int) % 65536)) = β := ⟨_, rfl⟩
      rw [hβ1] at f1
      rw [hβ2] at f2
      have s1 := m1.is
      have s2 := m2.is
      have hcc := m1.chg
      simp only [List.nil_append] at s1 s2
      clear hw kc m1 m2
      go_wp2_with fail
      refine (string_calls g1 v1 _ w4 s1).mono ?_
      rintro e w' ⟨rfl, rfl⟩
      go_wp2_with fail
      refine (string_calls g2 v2 _ w4 s2).mono ?_
      rintro e w' ⟨rfl, rfl⟩
      go_wp2_with fail
      refine (string_calls g1 v1 _ w4 s1).mono ?_
      rintro e w' ⟨rfl, rfl⟩
      go_wp2_with fail
      refine (string_calls g2 v2 _ w4 s2).mono ?_
      rintro e w' ⟨rfl, rfl⟩
      go_wp2_with fail
      go_roundw
      case rel => exact ⟨2, by omega, rfl, hs.chg hcc (fun h => h), hks.chg hcc (fun h => h), hc.trans hcc⟩
      case measure => simp [intOf]
    · go_wp2_with fail
      refine (new_calls wr).mono ?_
      rintro e w1 ⟨rfl, h1, hb1, hz1⟩
      have c1 := Chg.of_below hb1 (fun _ => False)
      have m1 : Mine wr w1 wr.heap.size (.slice none 0 0) [] := ⟨h1, c1, Nat.le_refl _, fun k h => (own_none k h).elim⟩
      clear h1 hb1
      obtain ⟨g1, hg1⟩ : ∃ g, wr.heap.size = g := ⟨_, rfl⟩
      have hg1' : g1 < w1.heap.size := by omega
      rw [hg1] at m1 ⊢
      go_wp2_with fail
      refine (new_calls w1).mono ?_
      rintro e w2 ⟨rfl, h2, hb2, hz2⟩
      have c2 := Chg.of_below hb2 (fun _ => False)
      have m2 : Mine wr w2 w1.heap.size (.slice none 0 0) [] := ⟨h2, c1.trans c2, m1.chg.size, fun k h => (own_none k h).elim⟩
      have m1 := m1.below c2
      obtain ⟨g2, hg2⟩ : ∃ g, w1.heap.size = g := ⟨_, rfl⟩
      rw [hg2] at m2 hg1' hz2 ⊢
      have n12 : g1 ≠ g2 := by omega
      have Hg := Lib.hid (And.intro hg1 (And.intro hg2 (And.intro hz1 hz2)))
      clear h2 hb2 hz2 hz1 hg1 hg2 hg1'
      have kc : w2.cell? ⟨w.heap.size + 1, 2, none⟩ = some (.int .i64 2) := by rw [(hks.chg m1.chg (fun h => h)).cell]; rfl
      have sc : w2.cell? ⟨w.heap.size, 2, none⟩ = some (.int .i64 32) := by rw [(hs.chg m1.chg (fun h => h)).cell]; rfl
      go_wp2_with fail
      refine (lay_fixed g1 2 2 rfl (by omega) ((a : Int) % 4294967296) (a % 4294967296) (by omega) (by unfold U64 at *; omega) _ [] w2 m1.is (by simp)).mono ?_
      rintro e w3 ⟨rfl, hw⟩
      have m2 := m2.keep m1 hw n12 (fun k h => (own_none k h).elim)
      obtain ⟨v1, m1⟩ := m1.wrote hw
      clear hw kc
      have kc : w3.cell? ⟨w.heap.size + 1, 2, none⟩ = some (.int .i64 2) := by rw [(hks.chg m1.chg (fun h => h)).cell]; rfl
      go_wp2_with fail
      refine (lay_fixed g2 2 2 rfl (by omega) ((b : Int) % 4294967296) (b % 4294967296) (by omega) (by unfold U64 at *; omega) _ [] w3 m2.is (by simp)).mono ?_
      rintro e w4 ⟨rfl, hw⟩
      have m1 := m1.keep m2 hw (Ne.symm n12) (fun k h => (own_none k h).elim)
      obtain ⟨v2, m2⟩ := m2.wrote hw
      obtain ⟨f1, f2⟩ := Pk.be_less (2 ^ 2) (a % 4294967296) (b % 4294967296) (by unfold U64 at *; omega) (by unfold U64 at *; omega)
      simp only [Int.natCast_emod, Int.cast_ofNat_Int] at f1 f2
      obtain ⟨β1, hβ1⟩ : ∃ β, decide ((a : Int) % 4294967296 < (b : Int) % 4294967296) = β := ⟨_, rfl⟩
      obtain ⟨β2, hβ2⟩ : ∃ β, (((a : Int) % 4294967296) == ((b : Int) % 4294967296)) = β := ⟨_, rfl⟩
      rw [hβ1] at f1
      rw [hβ2] at f2
      have s1 := m1.is
      have s2 := m2.is
      have hcc := m1.chg
      simp only [List.nil_append] at s1 s2
      clear hw kc m1 m2
      go_wp2_with fail
      refine (string_calls g1 v1 _ w4 s1).mono ?_
      rintro e w' ⟨rfl, rfl⟩
      go_wp2_with fail
      refine (string_calls g2 v2 _ w4 s2).mono ?_
      rintro e w' ⟨rfl, rfl⟩
      go_wp2_with fail
      refine (string_calls g1 v1 _ w4 s1).mono ?_
      rintro e w' ⟨rfl, rfl⟩
      go_wp2_with fail
      refine (string_calls g2 v2 _ w4 s2).mono ?_
      rintro e w' ⟨rfl, rfl⟩
      go_wp2_with fail
      go_roundw
      case rel => exact ⟨3, by omega, rfl, hs.chg hcc (fun h => h), hks.chg hcc (fun h => h), hc.trans hcc⟩
      case measure => simp [intOf]
    · go_wp2_with fail
      refine (new_calls wr).mono ?_
      rintro e w1 ⟨rfl, h1, hb1, hz1⟩
      have c1 := Chg.of_below hb1 (fun _ => False)
      have m1 : Mine wr w1 wr.heap.size (.slice none 0 0) [] := ⟨h1, c1, Nat.le_refl _, fun k h => (own_none k h).elim⟩
      clear h1 hb1
      obtain ⟨g1, hg1⟩ : ∃ g, wr.heap.size = g := ⟨_, rfl⟩
      have hg1' : g1 < w1.heap.size := by omega
      rw [hg1] at m1 ⊢
      go_wp2_with fail
      refine (new_calls w1).mono ?_
      rintro e w2 ⟨rfl, h2, hb2, hz2⟩
      have c2 := Chg.of_below hb2 (fun _ => False)
      have m2 : Mine wr w2 w1.heap.size (.slice none 0 0) [] := ⟨h2, c1.trans c2, m1.chg.size, fun k h => (own_none k h).elim⟩
      have m1 := m1.below c2
      obtain ⟨g2, hg2⟩ : ∃ g, w1.heap.size = g := ⟨_, rfl⟩
      rw [hg2] at m2 hg1' hz2 ⊢
      have n12 : g1 ≠ g2 := by omega
      have Hg := Lib.hid (And.intro hg1 (And.intro hg2 (And.intro hz1 hz2)))
      clear h2 hb2 hz2 hz1 hg1 hg2 hg1'
      have kc : w2.cell? ⟨w.heap.size + 1, 3, none⟩ = some (.int .i64 3) := by rw [(hks.chg m1.chg (fun h => h)).cell]; rfl
      go_wp2_with fail
      refine (lay_fixed g1 3 3 rfl (by omega) ((a : Int)) (a) (by omega) (by unfold U64 at *; omega) _ [] w2 m1.is (by simp)).mono ?_
      rintro e w3 ⟨rfl, hw⟩
      have m2 := m2.keep m1 hw n12 (fun k h => (own_none k h).elim)
      obtain ⟨v1, m1⟩ := m1.wrote hw
      clear hw kc
      have kc : w3.cell? ⟨w.heap.size + 1, 3, none⟩ = some (.int .i64 3) := by rw [(hks.chg m1.chg (fun h => h)).cell]; rfl
      go_wp2_with fail
      refine (lay_fixed g2 3 3 rfl (by omega) ((b : Int)) (b) (by omega) (by unfold U64 at *; omega) _ [] w3 m2.is (by simp)).mono ?_
      rintro e w4 ⟨rfl, hw⟩
      have m1 := m1.keep m2 hw (Ne.symm n12) (fun k h => (own_none k h).elim)
      obtain ⟨v2, m2⟩ := m2.wrote hw
      obtain ⟨f1, f2⟩ := Pk.be_less (2 ^ 3) (a) (b) (by unfold U64 at *; omega) (by unfold U64 at *; omega)
      skip
      obtain ⟨β1, hβ1⟩ : ∃ β, decide ((a : Int) < (b : Int)) = β := ⟨_, rfl⟩
      obtain ⟨β2, hβ2⟩ : ∃ β, (((a : Int)) == ((b : Int))) = β := ⟨_, rfl⟩
      have hβ3 : decide (a < b) = β1 := by rw [← hβ1]; simp
      rw [hβ1] at f1
      rw [hβ2] at f2
      have s1 := m1.is
      have s2 := m2.is
      have hcc := m1.chg
      simp only [List.nil_append] at s1 s2
      clear hw kc m1 m2
      go_wp2_with fail
      refine (string_calls g1 v1 _ w4 s1).mono ?_
      rintro e w' ⟨rfl, rfl⟩
      go_wp2_with fail
      refine (string_calls g2 v2 _ w4 s2).mono ?_
      rintro e w' ⟨rfl, rfl⟩
      go_wp2_with fail
      refine (string_calls g1 v1 _ w4 s1).mono ?_
      rintro e w' ⟨rfl, rfl⟩
      go_wp2_with fail
      refine (string_calls g2 v2 _ w4 s2).mono ?_
      rintro e w' ⟨rfl, rfl⟩
      go_wp2_with fail
      go_roundw
      case rel => exact ⟨4, by omega, rfl, hs.chg hcc (fun h => h), hks.chg hcc (fun h => h), hc.trans hcc⟩
      case measure => simp [intOf]
    · go_wp2_with fail
      refine (lives_calls wr).mono ?_
      rintro e w1 ⟨rfl, c1⟩
      go_wp2_with fail
      go_ret
      exact ⟨rfl, hc.trans c1⟩
end Go.Proofs.Ytkajbpdhglaieaa
