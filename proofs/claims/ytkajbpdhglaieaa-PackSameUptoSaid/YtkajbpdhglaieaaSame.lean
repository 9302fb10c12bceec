/-
  PackSame: what was read without a fault is laid as the very bytes.
-/
import Derived.Test.YtkajbpdhglaieaaAgain
import Derived.Test.YtkajbpdhglaieaaWrites
namespace Go.Proofs.Ytkajbpdhglaieaa
open Go.RowKit
set_option linter.unusedVariables false

set_option maxHeartbeats 4000000 in
set_option maxRecDepth 100000 in
theorem same_walk (l : List UInt8) (A : Option Addr) (n c : Nat) (p : List St) (w : World) (hl : l.length ≤ 2097152) (hp : Steps w A n p) (hn : n ≤ 1048576) :
    Calls Try.prog 7 #[S l, .slice A n c] w fun e w' => e = .returned (.bool true) ∧ Chg (fun _ => False) w w' := by
  go_enter Try.func7, Try.ntmps7
  go_wp2_with fail
  refine (open_calls l w (by omega)).mono ?_
  rintro e w1 ⟨rfl, h1, hb1, hz1⟩
  have c1 := Chg.of_below hb1 (fun _ => False)
  have m1 : MineR w w1 w.heap.size ⟨l, 0, 0⟩ := ⟨h1, c1, Nat.le_refl _⟩
  clear h1 hb1
  obtain ⟨g1, hg1⟩ : ∃ g, w.heap.size = g := ⟨_, rfl⟩
  have hg1' : g1 < w1.heap.size := by omega
  rw [hg1] at m1 ⊢
  go_wp2_with fail
  refine (new_calls w1).mono ?_
  rintro e w2 ⟨rfl, h2, hb2, hz2⟩
  have c2 := Chg.of_below hb2 (fun _ => False)
  have m2 : Mine w w2 w1.heap.size (.slice none 0 0) [] := ⟨h2, c1.trans c2, m1.chg.size, fun k h => (own_none k h).elim⟩
  have m1 := m1.below c2
  obtain ⟨g2, hg2⟩ : ∃ g, w1.heap.size = g := ⟨_, rfl⟩
  rw [hg2] at m2 hg1' hz2 ⊢
  have n12 : g1 ≠ g2 := by omega
  have Hg := Lib.hid (And.intro hg1 (And.intro hg2 (And.intro hz1 hz2)))
  clear h2 hb2 hz2 hz1 hg1 hg2 hg1' c1 c2
  go_wp2_with fail
  refine (lives_calls w2).mono ?_
  rintro e w3 ⟨rfl, c3⟩
  have m1 := m1.below c3
  have m2 := m2.below c3
  clear c3
  go_wp2_with fail
  go_loopw [7, 8] (fun iv _ wr => ∃ (k : Nat) (r : Pk.Rd) (v : Value), k ≤ n ∧ iv = .int .i64 k ∧ r.s = l ∧ r.f = 0 ∧ MineR w wr g1 r ∧ Mine w wr g2 v (l.take r.pos)) (fun iv _ _ => n - (intOf iv).toNat)
  case atStart => exact ⟨0, _, _, by omega, rfl, rfl, rfl, m1, m2⟩
  case round =>
    obtain ⟨k, r, v, hk, rfl, hrs, hrf, q1, q2⟩ := hrel
    by_cases hkn : k < n
    · obtain ⟨b, off, x, rfl, hx, hok, hat⟩ := hp.at_ hkn
      go_wp2_with fail
      refine (at_calls g1 r _ q1.is).mono ?_
      rintro e w' ⟨rfl, rfl⟩
      obtain ⟨k0, k1, k2, k3, k4, k5, k6, k7, k8⟩ := hat _ q2.chg
      go_wp2_with fail
      subst hrs
      refine (again_calls g1 g2 x r v w _ q2 q1 (hok.chg0 q2.chg) (by omega) hrf n12).mono ?_
      clear k0 k1 k2 k3 k4 k5 k6 k7 k8 q1 q2
      rintro e w4 ⟨rfl, r', v', ys, m1, m2, hs', hpos, hys⟩
      have hle := m1.is.le
      have hlen := m1.is.len
      rw [hs'] at hle
      by_cases hf' : r'.f = 0
      · have hys := hys hf'
        subst hys
        obtain ⟨t, ht⟩ : ∃ t, t = r.s.take r'.pos := ⟨_, rfl⟩
        have hex : ((⟨r.s.toArray⟩ : ByteArray).extract 0 r'.pos) = ⟨t.toArray⟩ := by rw [extract_S, ht]; simp
        obtain ⟨q, hq⟩ : ∃ q, q = r'.left := ⟨_, rfl⟩
        have hsub : IntKind.i64.wrap ((r.s.length : Int) - (r'.pos : Int)) = (q : Int) := by
          rw [hq, IntWalk.i64_in _ (by omega)]; unfold Pk.Rd.left; rw [hs']; omega
        have t1 : decide ((r'.pos : Int) < 0) = false := decide_eq_false (by omega)
        have t2 : decide ((r.s.length : Int) < (r'.pos : Int)) = false := decide_eq_false (by omega)
        have t3 : decide (r.s.length < r'.pos) = false := decide_eq_false (by omega)
        rw [← ht] at m2
        have Ht := Lib.hid ht
        have Hq := Lib.hid hq
        have Hf' := Lib.hid hf'
        have Hs' := Lib.hid hs'
        clear ht hq hf' hs'
        go_wp2_with fail
        refine (fault_no g1 r' _ m1.is Hf'.out).mono ?_
        rintro e w' ⟨rfl, rfl⟩
        go_wp2_with fail
        refine (at_calls g1 r' _ m1.is).mono ?_
        rintro e w' ⟨rfl, rfl⟩
        go_wp2_with fail
        refine (at_calls g1 r' _ m1.is).mono ?_
        rintro e w' ⟨rfl, rfl⟩
        go_wp2_with fail
        refine (string_calls g2 _ _ _ m2.is).mono ?_
        rintro e w' ⟨rfl, rfl⟩
        go_wp2_with fail
        refine (at_calls g1 r' _ m1.is).mono ?_
        rintro e w' ⟨rfl, rfl⟩
        go_wp2_with fail
        refine (left_calls g1 r' _ m1.is).mono ?_
        rintro e w' ⟨rfl, nq, rfl⟩
        rw [← Hq.out]
        have m1 := m1.quiet nq
        have m2 := m2.quiet nq
        go_wp2_with fail
        refine (at_calls g1 r' _ m1.is).mono ?_
        rintro e w' ⟨rfl, rfl⟩
        go_wp2_with fail
        go_roundw
        case rel => exact ⟨k + 1, r', v', by omega, by go_num, Hs'.out, Hf'.out, m1, by rw [← Ht.out]; exact m2⟩
        case measure => simp [intOf]; omega
      · go_wp2_with fail
        refine (fault_yes g1 r' _ m1.is hf').mono ?_
        rintro e w5 ⟨_, rfl, g3, rfl, _, c5, _⟩
        have m1 := m1.below c5
        have t1 : decide ((r.pos : Int) ≤ (r'.pos : Int)) = true := decide_eq_true (by omega)
        have t2 : decide ((r'.pos : Int) ≤ (r.s.length : Int)) = true := decide_eq_true (by omega)
        have t3 : decide (r.pos ≤ r'.pos) = true := decide_eq_true (by omega)
        have t4 : decide (r'.pos ≤ r.s.length) = true := decide_eq_true (by omega)
        go_wp2_with fail
        refine (at_calls g1 r' _ m1.is).mono ?_
        rintro e w' ⟨rfl, rfl⟩
        go_wp2_with fail
        refine (at_calls g1 r' _ m1.is).mono ?_
        rintro e w' ⟨rfl, rfl⟩
        go_wp2_with fail
        go_ret
        exact ⟨rfl, m1.chg⟩
    · go_wp2_with fail
      go_ret
      exact ⟨rfl, q1.chg⟩
end Go.Proofs.Ytkajbpdhglaieaa
