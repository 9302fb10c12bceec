/-
  heartwoodlaw01.back of any Step, and PackBack: what was laid is read back. Printed by gen_backs.py.
-/
import Derived.Test.YtkajbpdhglaieaaBackB
import Derived.Test.YtkajbpdhglaieaaBackC
import Derived.Test.YtkajbpdhglaieaaBackD
import Derived.Test.YtkajbpdhglaieaaBackE
import Derived.Test.YtkajbpdhglaieaaWrites
namespace Go.Proofs.Ytkajbpdhglaieaa
open Go.RowKit
set_option linter.unusedVariables false

theorem back_calls (gr : Nat) (x : St) (r : Pk.Rd) (t : List UInt8) (w0 w : World) (hr : MineR w0 w gr r) (hx : x.Ok w0) (hat : At r x.bytes t) (hlen : r.s.length ≤ 4398046511104) :
    Calls Try.prog 41 #[.pointer (some ⟨gr, 0, none⟩), .agg x.cells] w fun e w' => e = .returned (.bool true) ∧ MineR w0 w' gr ⟨r.s, r.pos + x.bytes.length, 0⟩ := by
  by_cases hno : x.kind < 0 ∨ 16 < x.kind
  · rw [St.bytes_no hno] at hat ⊢
    exact back_no gr x r t w0 w hr hx hat hlen (fun k hk => by omega)
  · obtain ⟨k, hk⟩ : ∃ k : Nat, x.kind = k := ⟨x.kind.toNat, by omega⟩
    have hle : k ≤ 16 := by omega
    match k, hle with
    | 0, _ =>
      have hb : x.bytes = Pk.be 1 x.n := by unfold St.bytes; rw [if_neg hno, hk]; rfl
      rw [hb] at hat ⊢
      exact back_0 gr x r t w0 w hr hx hat hlen (Lib.hid hk)
    | 1, _ =>
      have hb : x.bytes = Pk.be 2 x.n := by unfold St.bytes; rw [if_neg hno, hk]; rfl
      rw [hb] at hat ⊢
      exact back_1 gr x r t w0 w hr hx hat hlen (Lib.hid hk)
    | 2, _ =>
      have hb : x.bytes = Pk.be 4 x.n := by unfold St.bytes; rw [if_neg hno, hk]; rfl
      rw [hb] at hat ⊢
      exact back_2 gr x r t w0 w hr hx hat hlen (Lib.hid hk)
    | 3, _ =>
      have hb : x.bytes = Pk.be 8 x.n := by unfold St.bytes; rw [if_neg hno, hk]; rfl
      rw [hb] at hat ⊢
      exact back_3 gr x r t w0 w hr hx hat hlen (Lib.hid hk)
    | 4, _ =>
      have hb : x.bytes = Pk.be 1 x.n := by unfold St.bytes; rw [if_neg hno, hk]; rfl
      rw [hb] at hat ⊢
      exact back_4 gr x r t w0 w hr hx hat hlen (Lib.hid hk)
    | 5, _ =>
      have hb : x.bytes = Pk.be 2 x.n := by unfold St.bytes; rw [if_neg hno, hk]; rfl
      rw [hb] at hat ⊢
      exact back_5 gr x r t w0 w hr hx hat hlen (Lib.hid hk)
    | 6, _ =>
      have hb : x.bytes = Pk.be 4 x.n := by unfold St.bytes; rw [if_neg hno, hk]; rfl
      rw [hb] at hat ⊢
      exact back_6 gr x r t w0 w hr hx hat hlen (Lib.hid hk)
    | 7, _ =>
      have hb : x.bytes = Pk.be 8 x.n := by unfold St.bytes; rw [if_neg hno, hk]; rfl
      rw [hb] at hat ⊢
      exact back_7 gr x r t w0 w hr hx hat hlen (Lib.hid hk)
    | 8, _ =>
      have hb : x.bytes = Pk.be 2 x.n := by unfold St.bytes; rw [if_neg hno, hk]; rfl
      rw [hb] at hat ⊢
      exact back_8 gr x r t w0 w hr hx hat hlen (Lib.hid hk)
    | 9, _ =>
      have hb : x.bytes = Pk.free x.n := by unfold St.bytes; rw [if_neg hno, hk]; rfl
      rw [hb] at hat ⊢
      exact back_9 gr x r t w0 w hr hx hat hlen (Lib.hid hk)
    | 10, _ =>
      have hb : x.bytes = Pk.free (Pk.zig x.i) := by unfold St.bytes; rw [if_neg hno, hk]; rfl
      rw [hb] at hat ⊢
      exact back_10 gr x r t w0 w hr hx hat hlen (Lib.hid hk)
    | 11, _ =>
      have hb : x.bytes = x.parts.flatten := by unfold St.bytes; rw [if_neg hno, hk]; rfl
      rw [hb] at hat ⊢
      exact back_11 gr x r t w0 w hr hx hat hlen (Lib.hid hk)
    | 12, _ =>
      have hb : x.bytes = Pk.text x.s := by unfold St.bytes; rw [if_neg hno, hk]; rfl
      rw [hb] at hat ⊢
      exact back_12 gr x r t w0 w hr hx hat hlen (Lib.hid hk)
    | 13, _ =>
      have hb : x.bytes = (dig x.s).take (wd x.width) := by unfold St.bytes; rw [if_neg hno, hk]; rfl
      rw [hb] at hat ⊢
      exact back_13 gr x r t w0 w hr hx hat hlen (Lib.hid hk)
    | 14, _ =>
      have hb : x.bytes = (Pk.free x.bn ++ (x.ns.map Pk.free).flatten) := by unfold St.bytes; rw [if_neg hno, hk]; rfl
      rw [hb] at hat ⊢
      exact back_14 gr x r t w0 w hr hx hat hlen (Lib.hid hk)
    | 15, _ =>
      have hb : x.bytes = (Pk.free x.an ++ (x.parts.map Pk.text).flatten) := by unfold St.bytes; rw [if_neg hno, hk]; rfl
      rw [hb] at hat ⊢
      exact back_15 gr x r t w0 w hr hx hat hlen (Lib.hid hk)
    | 16, _ =>
      have hb : x.bytes = (Pk.free x.an ++ (x.parts.map Pk.text).flatten) := by unfold St.bytes; rw [if_neg hno, hk]; rfl
      rw [hb] at hat ⊢
      exact back_16 gr x r t w0 w hr hx hat hlen (Lib.hid hk)
    | k + 17, h => exact absurd h (by omega)

theorem laid_split {xs : List St} {n k : Nat} {x : St} (hn : k < n) (hx : xs[k]? = some x) : ∃ t, laidBytes xs n = laidBytes xs k ++ (x.bytes ++ t) := by
  refine ⟨(((xs.take n).drop (k + 1)).map St.bytes).flatten, ?_⟩
  have h1 : xs.take n = xs.take (k + 1) ++ (xs.take n).drop (k + 1) := by
    have := (List.take_append_drop (k + 1) (xs.take n)).symm
    rwa [List.take_take, Nat.min_eq_left (by omega)] at this
  have h2 := laid_next hx
  unfold laidBytes at *
  conv => lhs; rw [h1]
  rw [List.map_append, List.flatten_append, h2, List.append_assoc]
theorem at_of_split {L a b t : List UInt8} (h : L = a ++ (b ++ t)) : At ⟨L, a.length, 0⟩ b t := by
  subst h
  exact ⟨rfl, by simp, by simp⟩

set_option maxHeartbeats 4000000 in
set_option maxRecDepth 100000 in
theorem back_walk (A : Option Addr) (n c : Nat) (p : List St) (w : World) (hp : Steps w A n p) (hpb : bulks p ≤ 1048576) (hn : n ≤ 1048576) :
    Calls Try.prog 9 #[.slice A n c] w fun e w' => e = .returned (.bool true) ∧ Chg (fun _ => False) w w' := by
  go_enter Try.func9, Try.ntmps9
  go_wp2_with fail
  refine (new_calls w).mono ?_
  rintro e w1 ⟨rfl, h1, hb1, hz1⟩
  have c1 := Chg.of_below hb1 (fun _ => False)
  have m1 : Mine w w1 w.heap.size (.slice none 0 0) [] := ⟨h1, c1, Nat.le_refl _, fun k h => (own_none k h).elim⟩
  clear h1 hb1
  obtain ⟨g1, hg1⟩ : ∃ g, w.heap.size = g := ⟨_, rfl⟩
  have hg1' : g1 < w1.heap.size := by omega
  rw [hg1] at m1 ⊢
  have Hg1 := Lib.hid hg1
  clear hg1 hz1
  go_wp2_with fail
  refine (lives_calls w1).mono ?_
  rintro e w2 ⟨rfl, c2⟩
  have m1 := m1.below c2
  go_wp2_with fail
  go_loopw [4] (fun iv wr => ∃ (k : Nat) (v : Value), k ≤ n ∧ iv = .int .i64 k ∧ Mine w wr g1 v (laidBytes p k)) (fun iv _ => n - (intOf iv).toNat)
  case atStart => exact ⟨0, _, by omega, rfl, m1⟩
  case round =>
    obtain ⟨k, v, hk, rfl, m1⟩ := hrel
    by_cases hkn : k < n
    · obtain ⟨b1, off1, x1, rfl, hx1, hok1, hat1⟩ := hp.at_ hkn
      obtain ⟨k0, k1, k2, k3, k4, k5, k6, k7, k8⟩ := hat1 _ m1.chg
      have hln1 := laid_next hx1
      have hle1 := laid_len hp.2.1 k
      have hbl1 := St.bytes_len hok1
      have hbk1 := bulk_at hx1
      have hroom1 : (laidBytes p k).length + x1.bytes.length ≤ 140737488354000 := by omega
      have Hln1 := Lib.hid hln1
      clear hln1 hx1
      go_wp2_with fail
      refine (lay_calls g1 x1 v (laidBytes p k) _ m1.is (hok1.chg0 m1.chg) (hok1.far m1) hroom1).mono ?_
      clear k0 k1 k2 k3 k4 k5 k6 k7 k8
      rintro e wa1 ⟨rfl, hw⟩
      obtain ⟨v1', m1'⟩ := m1.wrote hw
      go_wp2_with fail
      go_roundw
      case rel => exact ⟨k + 1, v1', by omega, by go_num, by rw [Hln1.out]; exact m1'⟩
      case measure => simp [intOf]; omega
    · obtain rfl : k = n := by omega
      have hle1 := laid_len hp.2.1 k
      obtain ⟨wo, hwo⟩ : ∃ wo : World, wo = wr := ⟨_, rfl⟩
      subst hwo
      go_wp2_with fail
      refine (string_calls g1 _ _ _ m1.is).mono ?_
      rintro e w' ⟨rfl, rfl⟩
      go_wp2_with fail
      refine (open_calls (laidBytes p k) wo (by omega)).mono ?_
      rintro e w3 ⟨rfl, h3, hb3, hz3⟩
      have c3 := Chg.of_below hb3 (fun _ => False)
      have m3 : MineR wo w3 wo.heap.size ⟨laidBytes p k, 0, 0⟩ := ⟨h3, c3, Nat.le_refl _⟩
      obtain ⟨g3, hg3⟩ : ∃ g, wo.heap.size = g := ⟨_, rfl⟩
      rw [hg3] at m3 ⊢
      have Hg3 := Lib.hid hg3
      clear h3 hb3 hz3 hg3 c3
      go_wp2_with fail
      go_loopw [6] (fun iv wq => ∃ j : Nat, j ≤ k ∧ iv = .int .i64 j ∧ MineR wo wq g3 ⟨laidBytes p k, (laidBytes p j).length, 0⟩) (fun iv _ => k - (intOf iv).toNat)
      case atStart => exact ⟨0, by omega, rfl, by simpa [laidBytes] using m3⟩
      case round =>
        obtain ⟨j, hj, rfl, q3⟩ := hrel
        by_cases hjn : j < k
        · obtain ⟨b1, off1, x1, rfl, hx1, hok1, hat1⟩ := hp.at_ hjn
          obtain ⟨k0, k1, k2, k3, k4, k5, k6, k7, k8⟩ := hat1 _ (m1.chg.trans q3.chg)
          obtain ⟨t, ht⟩ := laid_split hjn hx1
          have Hat := Lib.hid (at_of_split ht)
          have Hln := Lib.hid (laid_next hx1)
          clear ht hx1
          go_wp2_with fail
          refine (back_calls g3 x1 ⟨laidBytes p k, (laidBytes p j).length, 0⟩ t wo _ q3 (hok1.chg0 m1.chg) Hat.out (by simp only; omega)).mono ?_
          clear k0 k1 k2 k3 k4 k5 k6 k7 k8
          rintro e wa1 ⟨rfl, q4⟩
          go_wp2_with fail
          go_roundw
          case rel => exact ⟨j + 1, by omega, by go_num, by rw [Hln.out, List.length_append]; exact q4⟩
          case measure => simp [intOf]; omega
        · obtain rfl : j = k := by omega
          have mw := m1.below q3.chg
          have hleft : (Pk.Rd.mk (laidBytes p j) (laidBytes p j).length 0).left = 0 := by unfold Pk.Rd.left; simp
          have Hleft := Lib.hid hleft
          clear hleft
          go_wp2_with fail
          refine (fault_no g3 _ _ q3.is rfl).mono ?_
          rintro e w' ⟨rfl, rfl⟩
          go_wp2_with fail
          refine (left_calls g3 _ _ q3.is).mono ?_
          rintro e w' ⟨rfl, nq, rfl⟩
          rw [Hleft.out]
          have q3 := q3.quiet nq
          have mw := mw.quiet nq
          go_wp2_with fail
          refine (at_calls g3 _ _ q3.is).mono ?_
          rintro e w' ⟨rfl, rfl⟩
          go_wp2_with fail
          refine (len_calls g1 _ _ _ mw.is).mono ?_
          rintro e w' ⟨rfl, rfl⟩
          go_wp2_with fail
          refine (end_none g3 _ _ q3.is rfl Hleft.out).mono ?_
          rintro e w' ⟨rfl, nq2, rfl⟩
          go_wp2_with fail
          go_ret
          exact ⟨rfl, by have h9 := (m1.chg.trans q3.chg).drewN nq2; rwa [World.drewN_drewN] at h9⟩
end Go.Proofs.Ytkajbpdhglaieaa
