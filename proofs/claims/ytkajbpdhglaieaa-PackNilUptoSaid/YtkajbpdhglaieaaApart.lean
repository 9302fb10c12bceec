/-
  No free number's, text's or list's bytes begin another one's: the plain law, and the walk of PackApart.
-/
import Derived.Test.YtkajbpdhglaieaaLives
import Derived.Test.YtkajbpdhglaieaaBeg
namespace Go.Proofs.Ytkajbpdhglaieaa
open Go.RowKit
set_option linter.unusedVariables false

theorem Mine.keep {w0 w w' : World} {g g2 : Nat} {v v2 : Value} {xs ys zs : List UInt8} (h2 : Mine w0 w g2 v2 zs) (h : Mine w0 w g v xs) (hw : Wrote w w' g v ys) (hne : g ≠ g2) (hap : ∀ k, v.ownBlock = some k → v2.ownBlock ≠ some k) : Mine w0 w' g2 v2 zs := by
  obtain ⟨v', h3, h4, _⟩ := h.wrote2 hw h2 hne hap
  exact h4
theorem own_none : ∀ k, (Value.slice none 0 0).ownBlock = some k → False := by intro k h; simp [Value.ownBlock] at h

namespace Pk
theorem free_inj {a b : Nat} {r s : List UInt8} (ha : a < 18446744073709551616) (hb : b < 18446744073709551616) (h : free a ++ r = free b ++ s) : a = b ∧ r = s := by
  have h1 := get_free ha r
  have h2 := get_free hb s
  rw [h, h2] at h1
  injection h1 with h1 h3
  subst h1
  exact ⟨rfl, List.append_cancel_left h⟩
theorem text_inj {x y r s : List UInt8} (hx : x.length < 18446744073709551616) (hy : y.length < 18446744073709551616) (h : text x ++ r = text y ++ s) : x = y ∧ r = s := by
  unfold text at h
  rw [List.append_assoc, List.append_assoc] at h
  obtain ⟨hl, h1⟩ := free_inj hx hy h
  exact List.append_inj h1 hl
theorem texts_inj : ∀ (p q : List (List UInt8)) (r s : List UInt8), p.length = q.length → (∀ x ∈ p, x.length < 18446744073709551616) → (∀ x ∈ q, x.length < 18446744073709551616) →
    (p.map text).flatten ++ r = (q.map text).flatten ++ s → p = q ∧ r = s := by
  intro p
  induction p with
  | nil => intro q r s hl _ _ h; cases q with
    | nil => exact ⟨rfl, by simpa using h⟩
    | cons y q => simp at hl
  | cons x p ih =>
    intro q r s hl hp hq h
    cases q with
    | nil => simp at hl
    | cons y q =>
      simp only [List.map_cons, List.flatten_cons, List.append_assoc] at h
      obtain ⟨rfl, h1⟩ := text_inj (hp x (by simp)) (hq y (by simp)) h
      obtain ⟨rfl, h2⟩ := ih q r s (by simpa using hl) (fun z hz => hp z (by simp [hz])) (fun z hz => hq z (by simp [hz])) h1
      exact ⟨rfl, h2⟩
theorem join_inj {p q : List (List UInt8)} {r s : List UInt8} (hp : p.length < 18446744073709551616) (hq : q.length < 18446744073709551616) (h1 : ∀ x ∈ p, x.length < 18446744073709551616) (h2 : ∀ x ∈ q, x.length < 18446744073709551616)
    (h : join p ++ r = join q ++ s) : p = q ∧ r = s := by
  unfold join at h
  rw [List.append_assoc, List.append_assoc] at h
  obtain ⟨hl, h3⟩ := free_inj hp hq h
  exact texts_inj p q r s hl h1 h2 h3
end Pk
theorem pre_iff (a b : List UInt8) : pre a b = true ↔ ∃ r, a ++ r = b := by
  unfold pre
  simp only [Bool.and_eq_true, decide_eq_true_eq, beq_iff_eq]
  constructor
  · rintro ⟨_, h⟩
    refine ⟨b.drop a.length, ?_⟩
    have := List.take_append_drop a.length b
    rw [h] at this
    exact this
  · rintro ⟨r, rfl⟩
    simp
theorem pre_of {a b : List UInt8} {β : Bool} (h1 : β = true → a = b) (h2 : β = false → ∀ r, a ++ r ≠ b) : pre a b = β := by
  cases β with
  | true => rw [pre_iff]; exact ⟨[], by rw [h1 rfl]; simp⟩
  | false =>
    rw [Bool.eq_false_iff]
    intro h
    obtain ⟨r, hr⟩ := (pre_iff a b).1 h
    exact h2 rfl r hr
theorem flat_le {p : List (List UInt8)} {x : List UInt8} (h : x ∈ p) : x.length ≤ p.flatten.length := by
  induction p with
  | nil => cases h
  | cons y p ih =>
    simp only [List.flatten_cons, List.length_append]
    cases List.mem_cons.1 h with
    | inl e => subst e; omega
    | inr e => have := ih e; omega
theorem free_len (n : Nat) (h : n ≤ 140737488355328) : (Pk.free n).length ≤ 10 := Pk.free_length_ten (by omega)
theorem texts_len (p : List (List UInt8)) (h : p.flatten.length ≤ 140737488355328) : (p.map Pk.text).flatten.length ≤ p.flatten.length + 10 * p.length := by
  induction p with
  | nil => simp
  | cons x p ih =>
    simp only [List.flatten_cons, List.length_append, List.map_cons, List.length_cons] at h ⊢
    have h1 := ih (by omega)
    have h2 := free_len x.length (by omega)
    unfold Pk.text at h1 ⊢
    rw [List.length_append]
    omega
theorem join_len (p : List (List UInt8)) (h : p.length + p.flatten.length ≤ 4194304) : (Pk.join p).length ≤ 140737488355328 := by
  have h1 := texts_len p (by omega)
  have h2 := free_len p.length (by omega)
  unfold Pk.join
  rw [List.length_append]
  omega

set_option maxHeartbeats 2000000 in
set_option maxRecDepth 100000 in
theorem apart_walk (a b : Nat) (x y : List UInt8) (A B : Option Addr) (n m c d : Nat) (p q : List (List UInt8)) (w : World) (ha : U64 a) (hb : U64 b) (hx : x.length ≤ 2097152) (hy : y.length ≤ 2097152)
    (hp : Lst w A n (strs p)) (hq : Lst w B m (strs q)) (hpl : p.length = n) (hql : q.length = m) (hpb : n + p.flatten.length ≤ 2097152) (hqb : m + q.flatten.length ≤ 2097152) :
    Calls Try.prog 3 #[.int .u64 a, .int .u64 b, S x, S y, .slice A n c, .slice B m d] w fun e w' => e = .returned (.bool true) ∧ Chg (fun _ => False) w w' := by
  have hfa := Pk.free_length_ten ha
  have hfb := Pk.free_length_ten hb
  have hfx := free_len x.length (by omega)
  have hfy := free_len y.length (by omega)
  have Hpl := Lib.hid hpl
  have Hql := Lib.hid hql
  clear hpl hql
  go_enter Try.func3, Try.ntmps3
  go_wp2_with fail
  refine (new_calls w).mono ?_
  rintro e w1 ⟨rfl, h1, hb1, hz1⟩
  have m1 : Mine w w1 w.heap.size (.slice none 0 0) [] := ⟨h1, Chg.of_below hb1 _, Nat.le_refl _, fun k h => (own_none k h).elim⟩
  clear h1 hb1
  obtain ⟨g1, hg1⟩ : ∃ g, w.heap.size = g := ⟨_, rfl⟩
  have hg1' : g1 < w1.heap.size := by omega
  rw [hg1] at m1 ⊢
  clear hz1
  go_wp2_with fail
  refine (new_calls w1).mono ?_
  rintro e w2 ⟨rfl, h2, hb2, hz2⟩
  have c2 := Chg.of_below hb2 (fun _ => False)
  have m2 : Mine w w2 w1.heap.size (.slice none 0 0) [] := ⟨h2, m1.chg.trans c2, m1.chg.size, fun k h => (own_none k h).elim⟩
  have m1 := m1.below c2
  obtain ⟨g2, hg2⟩ : ∃ g, w1.heap.size = g := ⟨_, rfl⟩
  rw [hg2] at m2 hg1' hz2 ⊢
  have hg2' : g2 < w2.heap.size := by omega
  have n12 : g1 ≠ g2 := by omega
  clear h2 hb2 hz2 c2
  go_wp2_with fail
  refine (new_calls w2).mono ?_
  rintro e w3 ⟨rfl, h3, hb3, hz3⟩
  have c3 := Chg.of_below hb3 (fun _ => False)
  have m3 : Mine w w3 w2.heap.size (.slice none 0 0) [] := ⟨h3, m1.chg.trans c3, m1.chg.size, fun k h => (own_none k h).elim⟩
  have m1 := m1.below c3
  have m2 := m2.below c3
  obtain ⟨g3, hg3⟩ : ∃ g, w2.heap.size = g := ⟨_, rfl⟩
  rw [hg3] at m3 hg2' hz3 ⊢
  have hg3' : g3 < w3.heap.size := by omega
  have n13 : g1 ≠ g3 := by omega
  have n23 : g2 ≠ g3 := by omega
  clear h3 hb3 hz3 c3
  go_wp2_with fail
  refine (new_calls w3).mono ?_
  rintro e w4 ⟨rfl, h4, hb4, hz4⟩
  have c4 := Chg.of_below hb4 (fun _ => False)
  have m4 : Mine w w4 w3.heap.size (.slice none 0 0) [] := ⟨h4, m1.chg.trans c4, m1.chg.size, fun k h => (own_none k h).elim⟩
  have m1 := m1.below c4
  have m2 := m2.below c4
  have m3 := m3.below c4
  obtain ⟨g4, hg4⟩ : ∃ g, w3.heap.size = g := ⟨_, rfl⟩
  rw [hg4] at m4 hg3' hz4 ⊢
  have n14 : g1 ≠ g4 := by omega
  have n24 : g2 ≠ g4 := by omega
  have n34 : g3 ≠ g4 := by omega
  have Hg := Lib.hid (And.intro hg1 (And.intro hg2 (And.intro hg3 hg4)))
  clear h4 hb4 hz4 c4 hg1' hg2' hg3' hg1 hg2 hg3 hg4
  go_wp2_with fail
  refine (lives_calls w4).mono ?_
  rintro e w5 ⟨rfl, c5⟩
  have m1 := m1.below c5
  have m2 := m2.below c5
  have m3 := m3.below c5
  have m4 := m4.below c5
  clear c5
  go_wp2_with fail
  refine (free_calls g1 a _ [] w5 m1.is ha (by simp; omega)).mono ?_
  rintro e w6 ⟨rfl, hw⟩
  have m2 := m2.keep m1 hw n12 (fun k h => (own_none k h).elim)
  have m3 := m3.keep m1 hw n13 (fun k h => (own_none k h).elim)
  have m4 := m4.keep m1 hw n14 (fun k h => (own_none k h).elim)
  obtain ⟨v1, m1⟩ := m1.wrote hw
  clear hw
  go_wp2_with fail
  refine (free_calls g2 b _ [] w6 m2.is hb (by simp; omega)).mono ?_
  rintro e w7 ⟨rfl, hw⟩
  have m1 := m1.keep m2 hw (Ne.symm n12) (fun k h => (own_none k h).elim)
  have m3 := m3.keep m2 hw n23 (fun k h => (own_none k h).elim)
  have m4 := m4.keep m2 hw n24 (fun k h => (own_none k h).elim)
  obtain ⟨v2, m2⟩ := m2.wrote hw
  clear hw
  go_wp2_with fail
  refine (text_calls g3 x _ [] w7 m3.is (by simp; omega)).mono ?_
  rintro e w8 ⟨rfl, hw⟩
  have m1 := m1.keep m3 hw (Ne.symm n13) (fun k h => (own_none k h).elim)
  have m2 := m2.keep m3 hw (Ne.symm n23) (fun k h => (own_none k h).elim)
  have m4 := m4.keep m3 hw n34 (fun k h => (own_none k h).elim)
  obtain ⟨v3, m3⟩ := m3.wrote hw
  clear hw
  go_wp2_with fail
  refine (text_calls g4 y _ [] w8 m4.is (by simp; omega)).mono ?_
  rintro e w9 ⟨rfl, hw⟩
  have m1 := m1.keep m4 hw (Ne.symm n14) (fun k h => (own_none k h).elim)
  have m2 := m2.keep m4 hw (Ne.symm n24) (fun k h => (own_none k h).elim)
  have m3 := m3.keep m4 hw (Ne.symm n34) (fun k h => (own_none k h).elim)
  obtain ⟨v4, m4⟩ := m4.wrote hw
  clear hw
  have hp := hp.chg m1.chg (fun _ _ _ h => h)
  have hq := hq.chg m1.chg (fun _ _ _ h => h)
  go_wp2_with fail
  refine (join_calls A n c p w9 hp (by omega) (join_len p (by rw [Hpl.out]; omega))).mono ?_
  rintro e w10 ⟨rfl, cj⟩
  have m1 := m1.below cj
  have m2 := m2.below cj
  have m3 := m3.below cj
  have m4 := m4.below cj
  have hp := hp.chg cj (fun _ _ _ h => h)
  have hq := hq.chg cj (fun _ _ _ h => h)
  clear cj
  go_wp2_with fail
  refine (join_calls B m d q w10 hq (by omega) (join_len q (by rw [Hql.out]; omega))).mono ?_
  rintro e w11 ⟨rfl, cj⟩
  have m1 := m1.below cj
  have m2 := m2.below cj
  have m3 := m3.below cj
  have m4 := m4.below cj
  have hp := hp.chg cj (fun _ _ _ h => h)
  have hq := hq.chg cj (fun _ _ _ h => h)
  clear cj
  obtain ⟨β1, hβ1⟩ : ∃ β, ((a : Int) == (b : Int)) = β := ⟨_, rfl⟩
  obtain ⟨β2, hβ2⟩ : ∃ β, (x == y) = β := ⟨_, rfl⟩
  obtain ⟨β3, hβ3⟩ : ∃ β, decide (p = q) = β := ⟨_, rfl⟩
  have p1 : pre (Pk.free a) (Pk.free b) = β1 := pre_of (fun h => by rw [h] at hβ1; simp at hβ1; rw [show a = b by omega]) (fun h r hr => by
    rw [h] at hβ1
    obtain ⟨e, _⟩ := Pk.free_inj (r := r) (s := []) ha hb (by simpa using hr)
    simp [e] at hβ1)
  have p2 : pre (Pk.free x.length ++ x) (Pk.free y.length ++ y) = β2 := pre_of (fun h => by rw [h] at hβ2; simp at hβ2; rw [hβ2]) (fun h r hr => by
    rw [h] at hβ2
    obtain ⟨e, _⟩ := Pk.text_inj (x := x) (y := y) (r := r) (s := []) (by omega) (by omega) (by simpa [Pk.text] using hr)
    simp [e] at hβ2)
  have p3 : pre (Pk.join p) (Pk.join q) = β3 := pre_of (fun h => by rw [h] at hβ3; simp at hβ3; rw [hβ3]) (fun h r hr => by
    rw [h] at hβ3
    obtain ⟨e, _⟩ := Pk.join_inj (p := p) (q := q) (r := r) (s := []) (by rw [Hpl.out]; omega) (by rw [Hql.out]; omega) (fun z hz => by have := flat_le hz; omega) (fun z hz => by have := flat_le hz; omega) (by simpa using hr)
    simp [e] at hβ3)
  have l2 : (Pk.free b).length ≤ 140737488355328 := by omega
  have l4 : (Pk.free y.length ++ y).length ≤ 140737488355328 := by simp; omega
  have l6 : (Pk.join q).length ≤ 140737488355328 := join_len q (by rw [Hql.out]; omega)
  have P1 := Lib.hid p1
  have P2 := Lib.hid p2
  have P3 := Lib.hid p3
  have H3 := Lib.hid hβ3
  have hcc := m1.chg
  have s1 := m1.is
  have s2 := m2.is
  have s3 := m3.is
  have s4 := m4.is
  simp only [List.nil_append] at s1 s2 s3 s4
  clear p1 p2 p3 hβ3 m1 m2 m3 m4
  cases β1 <;> cases β2 <;> cases β3
  all_goals
    go_wp2_with fail
    refine (string_calls g1 v1 _ w11 s1).mono ?_
    rintro e w' ⟨rfl, rfl⟩
    go_wp2_with fail
    refine (string_calls g2 v2 _ w11 s2).mono ?_
    rintro e w' ⟨rfl, rfl⟩
    go_wp2_with fail
    refine (begins_calls _ _ _ P1.out w11 l2).mono ?_
    rintro e w' ⟨rfl, rfl⟩
    go_wp2_with fail
    refine (string_calls g3 v3 _ w11 s3).mono ?_
    rintro e w' ⟨rfl, rfl⟩
    go_wp2_with fail
    refine (string_calls g4 v4 _ w11 s4).mono ?_
    rintro e w' ⟨rfl, rfl⟩
    go_wp2_with fail
    refine (begins_calls _ _ _ P2.out w11 l4).mono ?_
    rintro e w' ⟨rfl, rfl⟩
    go_wp2_with fail
    refine (begins_calls _ _ _ P3.out w11 l6).mono ?_
    rintro e w' ⟨rfl, rfl⟩
    go_wp2_with fail
    refine (same_calls A B n m c d p q _ w11 hp hq (by omega) H3.out).mono ?_
    rintro e w' ⟨rfl, nq, rfl⟩
    go_wp2_with fail
    go_ret
    exact ⟨rfl, hcc.drewN _⟩
end Go.Proofs.Ytkajbpdhglaieaa
