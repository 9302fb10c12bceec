/-
  pack.Reader: Fault and End.
-/
import Derived.Test.YthkfcfkkamffpaaGreatWt
import Derived.BigQuiet
import Derived.Deep.QuietTactic
import Derived.Laws.DeepNot64
import Derived.BigRegion
namespace Go.Proofs.YthkfcfkkamffpaaGreat
open Go.RowKit
set_option linter.unusedVariables false

/-- Block g is a Reader in the state r. -/
structure IsR (w : World) (g : Nat) (r : Pk.Rd) : Prop where
  blk : Blk w g 135 #[.bool true, S r.s, .int .i64 r.pos, .int .i64 r.f]
  le : r.pos ≤ r.s.length
  len : r.s.length ≤ 140737488355328
/-- From w to w' the Reader g alone has turned, to r. -/
def Red (w w' : World) (g : Nat) (r : Pk.Rd) : Prop := IsR w' g r ∧ Chg (fun k => k = g) w w'
theorem IsR.chg {S : Nat → Prop} {w w' : World} {g : Nat} {r : Pk.Rd} (h : IsR w g r) (hc : Chg S w w') (hn : ¬ S g) : IsR w' g r := ⟨h.blk.chg hc hn, h.le, h.len⟩
theorem IsR.alloc {w : World} {g : Nat} {r : Pk.Rd} (h : IsR w g r) (o : Obj) : IsR (w.alloc o) g r := ⟨h.blk.alloc o, h.le, h.len⟩
theorem IsR.drewN {w : World} {g : Nat} {r : Pk.Rd} (h : IsR w g r) (n : Nat) : IsR (w.drewN n) g r := ⟨h.blk.drewN n, h.le, h.len⟩
theorem Red.refl {w : World} {g : Nat} {r : Pk.Rd} (h : IsR w g r) : Red w w g r := ⟨h, Chg.refl _ _⟩
theorem Red.trans {w w1 w2 : World} {g : Nat} {r r' : Pk.Rd} (h : Chg (fun k => k = g) w w1) (k : Red w1 w2 g r') : Red w w2 g r' := ⟨k.1, h.trans k.2⟩
theorem Red.drewN {w w' : World} {g : Nat} {r : Pk.Rd} {n : Nat} (h : Red (w.drewN n) w' g r) : Red w w' g r := ⟨h.1, ((Chg.refl _ w).drewN n).trans h.2⟩
theorem IsR.c0 {w : World} {g : Nat} {r : Pk.Rd} (h : IsR w g r) : w.cell? ⟨g, 0, none⟩ = some (.bool true) := by rw [h.blk.cell]; rfl
theorem IsR.c1 {w : World} {g : Nat} {r : Pk.Rd} (h : IsR w g r) : w.cell? ⟨g, 1, none⟩ = some (S r.s) := by rw [h.blk.cell]; rfl
theorem IsR.c2 {w : World} {g : Nat} {r : Pk.Rd} (h : IsR w g r) : w.cell? ⟨g, 2, none⟩ = some (.int .i64 r.pos) := by rw [h.blk.cell]; rfl
theorem IsR.c3 {w : World} {g : Nat} {r : Pk.Rd} (h : IsR w g r) : w.cell? ⟨g, 3, none⟩ = some (.int .i64 r.f) := by rw [h.blk.cell]; rfl

set_option maxHeartbeats 400000 in
set_option maxRecDepth 100000 in
theorem open_calls (l : List UInt8) (w : World) (hl : l.length ≤ 140737488355328) :
    Calls Tryz.prog 55 #[S l] w fun e w' => e = .returned (.pointer (some ⟨w.heap.size, 0, none⟩)) ∧ IsR w' w.heap.size ⟨l, 0, 0⟩ ∧ Below w.heap.size w w' ∧ w'.heap.size = w.heap.size + 1 := by
  go_enter Tryz.func55, Tryz.ntmps55
  go_wp2_with fail
  go_ret
  exact ⟨rfl, ⟨Blk.new _ _ _, Nat.zero_le _, hl⟩, (Below.refl _ _).alloc (Nat.le_refl _) _, by simp⟩

set_option maxHeartbeats 400000 in
set_option maxRecDepth 100000 in
theorem dead_no (g : Nat) (r : Pk.Rd) (w : World) (h : IsR w g r) (hf : r.f = 0) :
    Calls Tryz.prog 81 #[.pointer (some ⟨g, 0, none⟩)] w fun e w' => e = .returned (.bool false) ∧ w = w' := by
  have c0 := h.c0
  have c3 : w.cell? ⟨g, 3, none⟩ = some (.int .i64 0) := by rw [h.c3, hf]; rfl
  clear hf
  go_enter Tryz.func81, Tryz.ntmps81
  go_wp2_with fail
  go_ret
  exact ⟨rfl, rfl⟩
set_option maxHeartbeats 400000 in
set_option maxRecDepth 100000 in
theorem dead_yes (g : Nat) (r : Pk.Rd) (w : World) (h : IsR w g r) (hf : r.f ≠ 0) :
    Calls Tryz.prog 81 #[.pointer (some ⟨g, 0, none⟩)] w fun e w' => e = .returned (.bool true) ∧ w = w' := by
  have c0 := h.c0
  have c3 := h.c3
  have hne : ((r.f : Int) != 0) = true := by simpa using hf
  clear hf
  go_enter Tryz.func81, Tryz.ntmps81
  go_wp2_with fail
  go_ret
  exact ⟨rfl, rfl⟩
set_option maxHeartbeats 400000 in
set_option maxRecDepth 100000 in
theorem fail_calls (g : Nat) (r : Pk.Rd) (ci : Int) (c p : Nat) (w : World) (hci : ci = c) (h : IsR w g r) (hp : p ≤ r.s.length) :
    Calls Tryz.prog 83 #[.pointer (some ⟨g, 0, none⟩), .int .i64 ci, .int .i64 p] w fun e w' => e = .returned (.tuple #[]) ∧ Red w w' g ⟨r.s, p, c⟩ := by
  have c2 := h.c2
  have c3 := h.c3
  have f2 := h.blk.frozen 2
  have f3 := h.blk.frozen 3
  subst hci
  go_enter Tryz.func83, Tryz.ntmps83
  go_wp2_with fail
  go_end0
  exact ⟨rfl, ⟨(h.blk.set_ 3 _).set_ 2 _, hp, h.len⟩, Chg.setCell (p := ⟨g, 2, none⟩) (Chg.setCell (p := ⟨g, 3, none⟩) (Chg.refl (fun k => k = g) w) (.inl rfl) _) (.inl rfl) _⟩
set_option maxHeartbeats 400000 in
set_option maxRecDepth 100000 in
theorem left_calls (g : Nat) (r : Pk.Rd) (w : World) (h : IsR w g r) :
    Calls Tryz.prog 82 #[.pointer (some ⟨g, 0, none⟩)] w fun e w' => e = .returned (.int .i64 r.left) ∧ ∃ n, w' = w.drewN n := by
  have c1 := h.c1
  have c2 := h.c2
  have le := h.le
  have len := h.len
  go_enter Tryz.func82, Tryz.ntmps82
  go_wp2_with fail
  go_quiet (fail)
  go_wp2_with fail
  go_ret
  exact ⟨ret_int (by unfold Pk.Rd.left; omega), nq, rfl⟩
theorem pow128 (i : Nat) : (128 : Nat) ^ i = 2 ^ (7 * i) := by rw [Nat.pow_mul]
theorem acc_bits (n i b : Nat) (hi : i ≤ 9) (hn : n < 128 ^ i) (hb : b < 256) (h9 : i = 9 → b ≤ 1) :
    bits BinOp.or IntKind.u64 (n : Int) (IntKind.u64.wrap (IntKind.u64.wrap (bits BinOp.and IntKind.u8 (b : Int) 127) * 2 ^ (7 * i))) = ((n + b % 128 * 128 ^ i : Nat) : Int) ∧ n + b % 128 * 128 ^ i < 128 ^ (i + 1) := by
  have e1 : bits BinOp.and IntKind.u8 (b : Int) 127 = ((b % 128 : Nat) : Int) := by
    refine (u8_and_nat b 127 hb (by omega)).trans ?_
    rw [show (127 : Nat) = 2 ^ 7 - 1 from rfl, Nat.and_two_pow_sub_one_eq_mod]
  have hlt : n + b % 128 * 128 ^ i < 128 ^ (i + 1) := by
    have h1 : b % 128 * 128 ^ i ≤ 127 * 128 ^ i := Nat.mul_le_mul_right _ (by omega)
    rw [Nat.pow_succ]
    omega
  refine ⟨?_, hlt⟩
  have h64 : n + b % 128 * 128 ^ i < 18446744073709551616 := by
    rcases Nat.lt_or_ge i 9 with h | h
    · have h2 : 128 ^ (i + 1) ≤ 128 ^ 9 := Nat.pow_le_pow_right (by decide) (by omega)
      rw [Pk.pow9] at h2
      omega
    · obtain rfl : i = 9 := by omega
      have := h9 rfl
      rw [Pk.pow9] at *
      have h3 : b % 128 * 9223372036854775808 ≤ 1 * 9223372036854775808 := Nat.mul_le_mul_right _ (by omega)
      omega
  rw [e1, IntKind.wrap_u64, IntKind.wrap_u64]
  have e2 : ((b % 128 : Nat) : Int) % 18446744073709551616 * 2 ^ (7 * i) % 18446744073709551616 = ((b % 128 * 128 ^ i : Nat) : Int) := by
    have e0 : ((b % 128 : Nat) : Int) % 18446744073709551616 = ((b % 128 : Nat) : Int) := by omega
    have e3 : ((b % 128 : Nat) : Int) * 2 ^ (7 * i) = ((b % 128 * 2 ^ (7 * i) : Nat) : Int) := by simp
    rw [e0, e3, ← pow128]
    exact Int.emod_eq_of_lt (by omega) (by omega)
  rw [e2]
  refine (u64_or_nat n (b % 128 * 128 ^ i) (by omega) (by omega)).trans ?_
  rw [pow128] at *
  have := Nat.two_pow_add_eq_or_of_lt hn (b % 128)
  rw [Nat.or_comm, Nat.mul_comm (b % 128), ← this, Nat.add_comm]
end Go.Proofs.YthkfcfkkamffpaaGreat
namespace Go.Proofs.YthkfcfkkamffpaaGreat
open Go.RowKit
set_option linter.unusedVariables false

set_option maxHeartbeats 1000000 in
set_option maxRecDepth 100000 in
theorem rfree_calls (g most : Nat) (r : Pk.Rd) (w : World) (h : IsR w g r) :
    Calls Tryz.prog 120 #[.pointer (some ⟨g, 0, none⟩), .int .u64 most] w fun e w' => e = .returned (.int .u64 (r.free most).1) ∧ Red w w' g (r.free most).2 := by
  have c1 := h.c1
  have c2 := h.c2
  have f2 := h.blk.frozen 2
  have le := h.le
  have len := h.len
  by_cases hf : r.f = 0
  · have Hf := Lib.hid hf
    clear hf
    go_enter Tryz.func120, Tryz.ntmps120
    go_wp2_with (go_at_call 81; refine (dead_no g r _ h Hf.out).mono ?_; rintro e w' ⟨rfl, rfl⟩)
    go_loop [5, 6, 7, 8] (fun nv av sv _ => ∃ (i n : Nat), i ≤ 9 ∧ r.pos + i ≤ r.s.length ∧ nv = .int .u64 n ∧ n < 128 ^ i ∧ av = .int .i64 ((r.pos : Int) + i) ∧ sv = .int .u64 (7 * (i : Int)) ∧ Pk.get (r.s.drop r.pos) 0 0 = Pk.get (r.s.drop (r.pos + i)) i n) (fun _ _ sv _ => 70 - (intOf sv).toNat)
    case atStart => exact ⟨0, 0, by omega, by omega, rfl, by omega, by simp, rfl, by simp⟩
    case round =>
      obtain ⟨i, n, hi, hpi, rfl, hn, rfl, rfl, hget⟩ := hrel
      have Hget := Lib.hid hget
      have Hn := Lib.hid hn
      clear hget hn
      by_cases hend : r.pos + i < r.s.length
      · obtain ⟨b, hb, hd⟩ := drop_at r.s hend
        have hlt := b.toNat_lt
        have hbi : (⟨r.s.toArray⟩ : ByteArray)[r.pos + i]'(by simpa [ByteArray.size] using hend) = b := by
          have : r.s[r.pos + i] = b := by rw [List.getElem?_eq_getElem hend] at hb; injection hb
          simpa [ByteArray.getElem_eq_getElem_data] using this
        have Hd := Lib.hid hd
        clear hb hd
        by_cases hbad : (i = 9 ∧ 1 < b.toNat) ∨ (0 < i ∧ b.toNat = 0)
        · have hr := Pk.Rd.free_bad most Hf.out (Hget.out.trans (by rw [Hd.out]; exact Pk.get_pack hbad))
          have Hr := Lib.hid hr
          clear hr
          rcases hbad with ⟨k1, k2⟩ | ⟨k1, k2⟩
          · have k1' : 9 ≤ i := by omega
            clear k1
            go_wp2_with (go_at_call 83; refine (fail_calls g r 11 11 r.pos _ rfl h le).mono ?_; rintro e w' ⟨rfl, hred⟩)
            go_ret
            rw [Hr.out]
            exact ⟨rfl, hred⟩
          · have k2' : b.toNat ≤ 0 := by omega
            clear k2
            have hb0 : ((b.toNat : Int) == 0) = true := by simp; omega
            rcases (show i < 9 ∨ 9 ≤ i by omega) with k3 | k3
            · go_wp2_with (go_at_call 83; refine (fail_calls g r 11 11 r.pos _ rfl h le).mono ?_; rintro e w' ⟨rfl, hred⟩)
              go_ret
              rw [Hr.out]
              exact ⟨rfl, hred⟩
            · go_wp2_with (go_at_call 83; refine (fail_calls g r 11 11 r.pos _ rfl h le).mono ?_; rintro e w' ⟨rfl, hred⟩)
              go_ret
              rw [Hr.out]
              exact ⟨rfl, hred⟩
        · have hacc := acc_bits n i b.toNat hi Hn.out hlt (by omega)
          have Hbad := Lib.hid hbad
          obtain ⟨v, hv⟩ : ∃ v, n + b.toNat % 128 * 128 ^ i = v := ⟨_, rfl⟩
          rw [hv] at hacc
          have Hv := Lib.hid hv
          obtain ⟨hacc, hvlt⟩ := hacc
          have Hvlt := Lib.hid hvlt
          clear hv hvlt
          have q9 : (i < 9 ∧ 0 < i ∧ 0 < b.toNat) ∨ (i < 9 ∧ i ≤ 0) ∨ (9 ≤ i ∧ 0 < b.toNat ∧ b.toNat ≤ 1) := by omega
          clear hbad
          by_cases hsm : b.toNat < 128
          · have hr1 := Hget.out.trans ((congrArg (fun l => Pk.get l i n) Hd.out).trans (Pk.get_last Hbad.out hsm))
            rw [Hv.out] at hr1
            by_cases hm : most < v
            · have Hr := Lib.hid (Pk.Rd.free_most Hf.out hr1 hm)
              clear hr1
              rcases q9 with ⟨q1, q2, q3⟩ | ⟨q1, q2⟩ | ⟨q1, q2, q3⟩
              · go_wp2_with (go_at_call 83; refine (fail_calls g r 12 12 r.pos _ rfl h le).mono ?_; rintro e w' ⟨rfl, hred⟩)
                go_ret
                rw [Hr.out]
                exact ⟨rfl, hred⟩
              · go_wp2_with (go_at_call 83; refine (fail_calls g r 12 12 r.pos _ rfl h le).mono ?_; rintro e w' ⟨rfl, hred⟩)
                go_ret
                rw [Hr.out]
                exact ⟨rfl, hred⟩
              · obtain rfl : i = 9 := by omega
                simp only [Nat.reduceMul, Int.reducePow] at hacc
                have hbz : ((b.toNat : Int) == 0) = false := by simp; omega
                go_wp2_with (go_at_call 83; refine (fail_calls g r 12 12 r.pos _ rfl h le).mono ?_; rintro e w' ⟨rfl, hred⟩)
                go_ret
                rw [Hr.out]
                exact ⟨rfl, hred⟩
            · have Hr := Lib.hid (Pk.Rd.free_good Hf.out hr1 (Nat.le_of_not_lt hm))
              clear hr1
              rcases q9 with ⟨q1, q2, q3⟩ | ⟨q1, q2⟩ | ⟨q1, q2, q3⟩
              · go_wp2_with fail
                go_ret
                rw [Hr.out]
                refine ⟨rfl, ⟨?_, by simp; omega, h.len⟩, Chg.setCell (p := ⟨g, 2, none⟩) (Chg.refl (fun k => k = g) w) (.inl rfl) _⟩
                have := h.blk.set_ 2 (.int .i64 ((r.pos : Int) + i + 1))
                simpa [Int.add_assoc] using this
              · go_wp2_with fail
                go_ret
                rw [Hr.out]
                refine ⟨rfl, ⟨?_, by simp; omega, h.len⟩, Chg.setCell (p := ⟨g, 2, none⟩) (Chg.refl (fun k => k = g) w) (.inl rfl) _⟩
                have := h.blk.set_ 2 (.int .i64 ((r.pos : Int) + i + 1))
                simpa [Int.add_assoc] using this
              · obtain rfl : i = 9 := by omega
                simp only [Nat.reduceMul, Int.reducePow] at hacc
                have hbz : ((b.toNat : Int) == 0) = false := by simp; omega
                go_wp2_with fail
                go_ret
                rw [Hr.out]
                refine ⟨rfl, ⟨?_, by simp; omega, h.len⟩, Chg.setCell (p := ⟨g, 2, none⟩) (Chg.refl (fun k => k = g) w) (.inl rfl) _⟩
                have := h.blk.set_ 2 (.int .i64 ((r.pos : Int) + 9 + 1))
                simpa [Int.add_assoc] using this
          · have hr1 := Hget.out.trans ((congrArg (fun l => Pk.get l i n) Hd.out).trans (Pk.get_more Hbad.out (by omega)))
            rw [Hv.out] at hr1
            have Hr := Lib.hid hr1
            clear hr1
            rcases q9 with ⟨q1, q2, q3⟩ | ⟨q1, q2⟩ | ⟨q1, q2, q3⟩
            · go_wp2_with fail
              go_round
              case rel => exact ⟨i + 1, v, by omega, by omega, rfl, Hvlt.out, by go_num, by go_num, Hr.out⟩
              case measure => simp [intOf]; omega
            · go_wp2_with fail
              go_round
              case rel => exact ⟨i + 1, v, by omega, by omega, rfl, Hvlt.out, by go_num, by go_num, Hr.out⟩
              case measure => simp [intOf]; omega
            · omega
      · have hnil : r.s.drop (r.pos + i) = [] := List.drop_of_length_le (by omega)
        have hr := Pk.Rd.free_bad most Hf.out (Hget.out.trans (by rw [hnil]; rfl))
        have Hr := Lib.hid hr
        clear hr hnil
        have heq : ((r.pos : Int) + i == r.s.length) = true := by simp; omega
        go_wp2_with (go_at_call 83; refine (fail_calls g r 10 10 r.pos _ rfl h le).mono ?_; rintro e w' ⟨rfl, hred⟩)
        go_ret
        rw [Hr.out]
        exact ⟨rfl, hred⟩
  · have hr := Pk.Rd.free_dead most hf
    go_enter Tryz.func120, Tryz.ntmps120
    go_wp2_with (go_at_call 81; refine (dead_yes g r _ h hf).mono ?_; rintro e w' ⟨rfl, rfl⟩)
    go_ret
    rw [hr]
    exact ⟨rfl, Red.refl h⟩
end Go.Proofs.YthkfcfkkamffpaaGreat
namespace Go.Proofs.YthkfcfkkamffpaaGreat
open Go.RowKit
set_option linter.unusedVariables false

set_option maxHeartbeats 1000000 in
set_option maxRecDepth 100000 in
theorem rraw_calls (g : Nat) (n : Int) (r : Pk.Rd) (w : World) (h : IsR w g r) :
    Calls Tryz.prog 180 #[.pointer (some ⟨g, 0, none⟩), .int .i64 n] w fun e w' => e = .returned (S (r.raw n).1) ∧ Red w w' g (r.raw n).2 := by
  have c1 := h.c1
  have c2 := h.c2
  have f2 := h.blk.frozen 2
  have le := h.le
  have len := h.len
  by_cases hf : r.f = 0
  · have Hf := Lib.hid hf
    by_cases hn : n ≤ 0
    · have Hr := Lib.hid (show r.raw n = ([], r) by unfold Pk.Rd.raw; rw [if_pos (.inr hn)])
      clear hf
      go_enter Tryz.func180, Tryz.ntmps180
      go_wp2_with (go_at_call 81; refine (dead_no g r _ h Hf.out).mono ?_; rintro e w' ⟨rfl, rfl⟩)
      go_ret
      rw [Hr.out]
      exact ⟨rfl, Red.refl h⟩
    · by_cases hl : (r.left : Int) < n
      · have Hr := Lib.hid (show r.raw n = ([], ⟨r.s, r.pos, 10⟩) by unfold Pk.Rd.raw; rw [if_neg (by omega), if_pos hl])
        clear hf
        go_enter Tryz.func180, Tryz.ntmps180
        go_wp2_with (first | (go_at_call 81; refine (dead_no g r _ h Hf.out).mono ?_; rintro e w' ⟨rfl, rfl⟩) | (go_at_call 82; refine (left_calls g r _ h).mono ?_; rintro e w' ⟨rfl, nq, rfl⟩) | (go_at_call 83; refine (fail_calls g r 10 10 r.pos _ rfl (h.drewN nq) le).mono ?_; rintro e w' ⟨rfl, hred⟩))
        go_ret
        rw [Hr.out]
        exact ⟨rfl, hred.drewN⟩
      · have hlt : (n : Int) ≤ r.left := by omega
        unfold Pk.Rd.left at hlt
        obtain ⟨k, rfl⟩ : ∃ k : Nat, n = k := ⟨n.toNat, by omega⟩
        have Hr := Lib.hid (show r.raw k = ((r.s.drop r.pos).take k, ⟨r.s, r.pos + k, r.f⟩) by unfold Pk.Rd.raw; rw [if_neg (by omega), if_neg hl]; rfl)
        have hl2 : ¬ ((r.left : Int) < k) := hl
        clear hf hl
        have hw : IntKind.i64.wrap ((r.pos : Int) + (k : Int)) = (r.pos : Int) + (k : Int) := IntWalk.i64_in _ (by omega)
        have hsl := fun w => run_slice_S (P := Tryz.prog) 9 Tryz.underlying9 r.s r.pos (r.pos + k) (r.pos : Int) ((r.pos : Int) + (k : Int)) rfl (by omega) (by omega) (by omega) w
        rw [show r.pos + k - r.pos = k by omega] at hsl
        go_enter Tryz.func180, Tryz.ntmps180
        go_wp2_with (first | (go_at_call 81; refine (dead_no g r _ h Hf.out).mono ?_; rintro e w' ⟨rfl, rfl⟩) | (go_at_call 82; refine (left_calls g r _ h).mono ?_; rintro e w' ⟨rfl, nq, rfl⟩))
        go_quiet (fail)
        go_wp2_with fail
        go_ret
        rw [Hr.out]
        refine ⟨rfl, ⟨?_, by simp; omega, h.len⟩, Chg.setCell (p := ⟨g, 2, none⟩) (((Chg.refl (fun k => k = g) w).drewN _)) (.inl rfl) _⟩
        show Blk _ g _ #[.bool true, S r.s, .int .i64 ((r.pos + k : Nat) : Int), .int .i64 r.f]
        rw [show ((r.pos + k : Nat) : Int) = (r.pos : Int) + (k : Int) by omega]
        exact (h.drewN _).blk.set_ 2 _
  · have hr : r.raw n = ([], r) := by unfold Pk.Rd.raw; rw [if_pos (.inl hf)]
    go_enter Tryz.func180, Tryz.ntmps180
    go_wp2_with (go_at_call 81; refine (dead_yes g r _ h hf).mono ?_; rintro e w' ⟨rfl, rfl⟩)
    go_ret
    rw [hr]
    exact ⟨rfl, Red.refl h⟩

theorem rfree_callsI (g : Nat) (mi : Int) (most : Nat) (r : Pk.Rd) (w : World) (hmi : mi = most) (h : IsR w g r) :
    Calls Tryz.prog 120 #[.pointer (some ⟨g, 0, none⟩), .int .u64 mi] w fun e w' => e = .returned (.int .u64 (r.free most).1) ∧ Red w w' g (r.free most).2 := by
  subst hmi; exact rfree_calls g most r w h
theorem rraw_callsI (g : Nat) (ni n : Int) (r : Pk.Rd) (w : World) (hni : ni = n) (h : IsR w g r) :
    Calls Tryz.prog 180 #[.pointer (some ⟨g, 0, none⟩), .int .i64 ni] w fun e w' => e = .returned (S (r.raw n).1) ∧ Red w w' g (r.raw n).2 := by
  subst hni; exact rraw_calls g ni r w h
/-- the number that a signed free number says -/
def unzig (n : Nat) : Int := if n % 2 = 1 then -((n / 2 : Nat) : Int) - 1 else ((n / 2 : Nat) : Int)
theorem unzig_bits (n : Nat) (h : n < 18446744073709551616) :
    bits BinOp.xor IntKind.i64 (wrap64 ((n : Int) / 2)) (wrap64 (-wrap64 (bits BinOp.and IntKind.u64 (n : Int) 1))) = unzig n := by
  have e1 : bits BinOp.and IntKind.u64 (n : Int) 1 = ((n % 2 : Nat) : Int) := by
    refine (u64_and_nat n 1 h (by omega)).trans ?_
    rw [Nat.and_one_is_mod]
  have e2 : wrap64 ((n : Int) / 2) = ((n / 2 : Nat) : Int) := by unfold wrap64; omega
  rw [e1, e2]
  rcases Nat.mod_two_eq_zero_or_one n with h0 | h0
  · rw [h0]
    have e3 : wrap64 (-wrap64 ((0 : Nat) : Int)) = 0 := by unfold wrap64; omega
    rw [e3, unzig, if_neg (by omega)]
    unfold bits
    have e4 : BitVec.ofInt IntKind.i64.bits 0 = 0#_ := rfl
    simp only [e4, BitVec.xor_zero]
    have hlt : n / 2 < 9223372036854775808 := by omega
    generalize n / 2 = m at *
    have e5 : (BitVec.ofInt IntKind.i64.bits (m : Int)).toNat = m := by
      rw [BitVec.toNat_ofInt]
      simp [IntKind.bits]
      omega
    rw [e5, IntWalk.i64_in _ (by omega)]
  · rw [h0]
    have e3 : wrap64 (-wrap64 ((1 : Nat) : Int)) = -1 := by unfold wrap64; omega
    rw [e3, unzig, if_pos (by omega)]
    have e4 : ∀ a b : Int, bits BinOp.xor IntKind.i64 a b = bits BinOp.xor IntKind.i64 b a := by
      intro a b
      unfold bits
      simp only [BitVec.xor_comm]
    rw [e4]
    refine (i64_not (n / 2) (by omega)).trans ?_
    omega
theorem get_lt {l : List UInt8} {v k : Nat} (h : Pk.get l 0 0 = .good v k) : v < 18446744073709551616 := by
  obtain ⟨m, hv, _, _, _, hm, _⟩ := Pk.get_sound l 0 0 v k (by omega) h
  simpa [hv] using hm
theorem rfree_lt (r : Pk.Rd) (most : Nat) : (r.free most).1 < 18446744073709551616 := by
  unfold Pk.Rd.free
  split
  · show 0 < _; omega
  · split
    · show 0 < _; omega
    · rename_i h
      split
      · show 0 < _; omega
      · exact get_lt h
theorem rfree_s (r : Pk.Rd) (most : Nat) : (r.free most).2.s = r.s := by
  unfold Pk.Rd.free
  split
  · rfl
  · split
    · rfl
    · split <;> rfl
theorem text_bad {r : Pk.Rd} {most : Int} (hf : r.f = 0) (h : (r.free most.toNat).2.f ≠ 0) : r.text most = ([], (r.free most.toNat).2) := by
  unfold Pk.Rd.text; rw [if_neg (by omega)]; simp only [if_pos h]
theorem text_ends {r : Pk.Rd} {most : Int} (hf : r.f = 0) (h : (r.free most.toNat).2.f = 0) (hl : (r.free most.toNat).2.left < (r.free most.toNat).1) :
    r.text most = ([], { (r.free most.toNat).2 with f := 10, pos := r.pos }) := by
  unfold Pk.Rd.text; rw [if_neg (by omega)]; simp only [if_neg (show ¬ (r.free most.toNat).2.f ≠ 0 by omega), if_pos hl]
theorem text_good {r : Pk.Rd} {most : Int} (hf : r.f = 0) (h : (r.free most.toNat).2.f = 0) (hl : (r.free most.toNat).1 ≤ (r.free most.toNat).2.left) :
    r.text most = (r.free most.toNat).2.raw (r.free most.toNat).1 := by
  unfold Pk.Rd.text; rw [if_neg (by omega)]; simp only [if_neg (show ¬ (r.free most.toNat).2.f ≠ 0 by omega), if_neg (show ¬ (r.free most.toNat).2.left < (r.free most.toNat).1 by omega)]

set_option maxHeartbeats 1000000 in
set_option maxRecDepth 100000 in
theorem rtext_calls (g : Nat) (most : Int) (r : Pk.Rd) (w : World) (h : IsR w g r) (hi : I64 most) :
    Calls Tryz.prog 142 #[.pointer (some ⟨g, 0, none⟩), .int .i64 most] w fun e w' => e = .returned (S (r.text most).1) ∧ Red w w' g (r.text most).2 := by
  have c1 := h.c1
  have c2 := h.c2
  have le := h.le
  have len := h.len
  by_cases hf : r.f = 0
  · have Hf := Lib.hid hf
    clear hf
    go_enter Tryz.func142, Tryz.ntmps142
    rcases (show most ≤ 0 ∨ 0 < most by omega) with hm | hm
    all_goals
      go_wp2_with (go_at_call 81; refine (dead_no g r _ h Hf.out).mono ?_; rintro e w' ⟨rfl, rfl⟩)
      refine (rfree_callsI g _ most.toNat r _ ?hmi h).mono ?_
      case hmi => first | omega | (unfold I64 at hi; rw [IntKind.wrap_u64]; omega)
      rintro e w1 ⟨rfl, h1, hc1⟩
      have hlt := rfree_lt r most.toNat
      have hs := rfree_s r most.toNat
      by_cases hf2 : (r.free most.toNat).2.f = 0
      · by_cases hl : (r.free most.toNat).2.left < (r.free most.toNat).1
        · have Hr := Lib.hid (text_ends Hf.out hf2 hl)
          generalize r.free most.toNat = p at *
          obtain ⟨n, q⟩ := p
          simp only at *
          have Hf2 := Lib.hid hf2
          have Hs := Lib.hid hs
          have hl' : q.left < n := hl
          have hle := h1.le
          have hql : q.left ≤ 140737488355328 := by have := h1.len; unfold Pk.Rd.left; omega
          clear hf2 hs hlt
          go_wp2_with (first | (go_at_call 81; refine (dead_no g q _ h1 Hf2.out).mono ?_; rintro e w' ⟨rfl, rfl⟩) | (go_at_call 82; refine (left_calls g q _ h1).mono ?_; rintro e w' ⟨rfl, nq, rfl⟩) | (go_at_call 83; refine (fail_calls g q 10 10 r.pos _ rfl (h1.drewN nq) (by rw [Hs.out]; exact le)).mono ?_; rintro e w' ⟨rfl, hred⟩))
          go_ret
          rw [Hr.out]
          exact ⟨rfl, hred.1, (hc1.drewN _).trans hred.2⟩
        · have Hr := Lib.hid (text_good Hf.out hf2 (by omega))
          generalize r.free most.toNat = p at *
          obtain ⟨n, q⟩ := p
          simp only at *
          have Hf2 := Lib.hid hf2
          have hl' : n ≤ q.left := by omega
          have hql : q.left ≤ 140737488355328 := by have := h1.len; unfold Pk.Rd.left; omega
          clear hf2 hs hlt hl
          go_wp2_with (first | (go_at_call 81; refine (dead_no g q _ h1 Hf2.out).mono ?_; rintro e w' ⟨rfl, rfl⟩) | (go_at_call 82; refine (left_calls g q _ h1).mono ?_; rintro e w' ⟨rfl, nq, rfl⟩))
          refine (rraw_callsI g _ n q _ ?hni (h1.drewN _)).mono ?_
          case hni => rfl
          rintro e w' ⟨rfl, hred⟩
          go_wp2_with fail
          go_ret
          rw [Hr.out]
          exact ⟨rfl, hred.1, (hc1.drewN _).trans hred.2⟩
      · have Hr := Lib.hid (text_bad Hf.out hf2)
        generalize r.free most.toNat = p at *
        obtain ⟨n, q⟩ := p
        simp only at *
        have Hf2 := Lib.hid hf2
        clear hf2 hs hlt
        go_wp2_with (go_at_call 81; refine (dead_yes g q _ h1 Hf2.out).mono ?_; rintro e w' ⟨rfl, rfl⟩)
        go_ret
        rw [Hr.out]
        exact ⟨rfl, h1, hc1⟩
  · have hr : r.text most = ([], r) := by unfold Pk.Rd.text; rw [if_pos hf]
    go_enter Tryz.func142, Tryz.ntmps142
    go_wp2_with (go_at_call 81; refine (dead_yes g r _ h hf).mono ?_; rintro e w' ⟨rfl, rfl⟩)
    go_ret
    rw [hr]
    exact ⟨rfl, Red.refl h⟩

/-- a number read, brought into its kind -/
def tk (k : IntKind) (n : Nat) : Int := k.wrap n
theorem num_snoc (l : List UInt8) (b : UInt8) : Pk.num (l ++ [b]) = Pk.num l * 256 + b.toNat := by simp [Pk.num]
theorem num_lt (l : List UInt8) (n : Nat) (h : l.length ≤ n) : Pk.num l < 256 ^ n := by
  have key : ∀ (l : List UInt8) (x : Nat), l.foldl (fun x b => x * 256 + b.toNat) x < (x + 1) * 256 ^ l.length := by
    intro l
    induction l with
    | nil => intro x; simp
    | cons b l ih =>
      intro x
      have h1 := ih (x * 256 + b.toNat)
      have h2 := b.toNat_lt
      have h3 : (x * 256 + b.toNat + 1) * 256 ^ l.length ≤ ((x + 1) * 256) * 256 ^ l.length := Nat.mul_le_mul_right _ (by omega)
      simp only [List.foldl_cons, List.length_cons, Nat.pow_succ]
      rw [Nat.mul_comm (256 ^ l.length) 256, ← Nat.mul_assoc]
      omega
  have := key l 0
  rw [Nat.zero_add, Nat.one_mul] at this
  exact Nat.lt_of_lt_of_le this (Nat.pow_le_pow_right (by decide) h)
theorem num_take (r : Pk.Rd) {i : Nat} (hend : r.pos + i < r.s.length) {b : UInt8} (hb : r.s[r.pos + i]? = some b) :
    Pk.num ((r.s.drop r.pos).take (i + 1)) = Pk.num ((r.s.drop r.pos).take i) * 256 + b.toNat := by
  rw [← num_snoc, List.take_succ_eq_append_getElem (by simp; omega)]
  congr 2
  rw [List.getElem?_eq_getElem hend] at hb
  injection hb with hb
  simp [hb]
theorem num_bits (x i b : Nat) (hx : x < 256 ^ i) (hi : i < 8) (hb : b < 256) :
    bits BinOp.or IntKind.u64 (IntKind.u64.wrap ((x : Int) * 256)) (IntKind.u64.wrap (b : Int)) = ((x * 256 + b : Nat) : Int) := by
  have h7 : 256 ^ i ≤ 256 ^ 7 := Nat.pow_le_pow_right (by decide) (by omega)
  have h8 : (256 : Nat) ^ 7 = 72057594037927936 := by decide
  rw [IntKind.wrap_u64, IntKind.wrap_u64]
  have e1 : (x : Int) * 256 % 18446744073709551616 = ((x * 256 : Nat) : Int) := by omega
  have e2 : (b : Int) % 18446744073709551616 = (b : Int) := by omega
  rw [e1, e2]
  refine (u64_or_nat (x * 256) b (by omega) (by omega)).trans ?_
  have := Nat.two_pow_add_eq_or_of_lt (i := 8) (b := b) (by omega) x
  rw [show x * 256 = 2 ^ 8 * x by omega, ← this]
theorem tk_u8 (n : Nat) (h : n < 256 ^ 1) : ((n : Int) % 256) = tk .u8 n := by unfold tk; rw [IntKind.wrap_u8']
theorem tk_u16 (n : Nat) (h : n < 256 ^ 2) : ((n : Int) % 65536) = tk .u16 n := by unfold tk; rw [IntKind.wrap_u16]
theorem tk_u32 (n : Nat) (h : n < 256 ^ 4) : ((n : Int) % 4294967296) = tk .u32 n := by unfold tk; rw [IntKind.wrap_u32']
theorem tk_u64 (n : Nat) (h : n < 256 ^ 8) : (n : Int) = tk .u64 n := by
  unfold tk; rw [IntKind.wrap_u64]
  have h8 : (256 : Nat) ^ 8 = 18446744073709551616 := by decide
  omega
end Go.Proofs.YthkfcfkkamffpaaGreat
namespace Go.Proofs.YthkfcfkkamffpaaGreat
open Go.RowKit
set_option linter.unusedVariables false

set_option maxHeartbeats 1000000 in
set_option maxRecDepth 100000 in
theorem take_uint8 (g : Nat) (r : Pk.Rd) (w : World) (h : IsR w g r) :
    Calls Tryz.prog 177 #[.pointer (some ⟨g, 0, none⟩)] w fun e w' => e = .returned (.int .u8 (tk .u8 (r.take 1).1)) ∧ Red w w' g (r.take 1).2 := by
  have c1 := h.c1
  have c2 := h.c2
  have f2 := h.blk.frozen 2
  have le := h.le
  have len := h.len
  by_cases hf : r.f = 0
  · have Hf := Lib.hid hf
    by_cases hl : r.left < 1
    · have Hr := Lib.hid (show r.take 1 = (0, ⟨r.s, r.pos, 10⟩) by unfold Pk.Rd.take; rw [if_neg (by omega), if_pos hl])
      clear hf
      go_enter Tryz.func177, Tryz.ntmps177
      go_wp2_with (first | (go_at_call 81; refine (dead_no g r _ h Hf.out).mono ?_; rintro e w' ⟨rfl, rfl⟩) | (go_at_call 192; refine (width_uint8 _).mono ?_; rintro e w' ⟨rfl, rfl⟩) | (go_at_call 82; refine (left_calls g r _ h).mono ?_; rintro e w' ⟨rfl, nq, rfl⟩) | (go_at_call 83; refine (fail_calls g r 10 10 r.pos _ rfl (h.drewN nq) le).mono ?_; rintro e w' ⟨rfl, hred⟩))
      go_ret
      rw [Hr.out]
      exact ⟨rfl, hred.drewN⟩
    · have Hr := Lib.hid (show r.take 1 = (Pk.num ((r.s.drop r.pos).take 1), ⟨r.s, r.pos + 1, r.f⟩) by unfold Pk.Rd.take; rw [if_neg (by omega), if_neg hl])
      have hl2 : 1 ≤ r.left := by omega
      clear hf hl
      go_enter Tryz.func177, Tryz.ntmps177
      go_wp2_with (first | (go_at_call 81; refine (dead_no g r _ h Hf.out).mono ?_; rintro e w' ⟨rfl, rfl⟩) | (go_at_call 192; refine (width_uint8 _).mono ?_; rintro e w' ⟨rfl, rfl⟩) | (go_at_call 82; refine (left_calls g r _ h).mono ?_; rintro e w' ⟨rfl, nq, rfl⟩))
      go_loopw [4, 5, 20] (fun xv _ iv wr => ∃ (i m : Nat), i ≤ 1 ∧ iv = .int .i64 i ∧ xv = .int .u64 (Pk.num ((r.s.drop r.pos).take i)) ∧ wr = w.drewN m) (fun _ _ iv _ => 1 - (intOf iv).toNat)
      case atStart => exact ⟨0, nq, by omega, rfl, by simp [Pk.num], rfl⟩
      case round =>
        obtain ⟨i, m, hi, rfl, rfl, rfl⟩ := hrel
        by_cases hp : i < 1
        · have hend : r.pos + i < r.s.length := by unfold Pk.Rd.left at hl2; omega
          obtain ⟨b, hb, hd⟩ := drop_at r.s hend
          have hbi : (⟨r.s.toArray⟩ : ByteArray)[r.pos + i]'(by simpa [ByteArray.size] using hend) = b := by
            have : r.s[r.pos + i] = b := by rw [List.getElem?_eq_getElem hend] at hb; injection hb
            simpa [ByteArray.getElem_eq_getElem_data] using this
          have hnum := num_take r hend hb
          have hx := num_bits (Pk.num ((r.s.drop r.pos).take i)) i b.toNat (num_lt _ i (by simp; omega)) (by omega) b.toNat_lt
          rw [← hnum] at hx
          have hw : IntKind.i64.wrap ((r.pos : Int) + (i : Int)) = (r.pos : Int) + (i : Int) := IntWalk.i64_in _ (by omega)
          have h0 : 0 ≤ (r.pos : Int) + (i : Int) := by omega
          have h1 : (r.pos : Int) + (i : Int) < (r.s.length : Int) := by omega
          have ht : ((r.pos : Int) + (i : Int)).toNat = r.pos + i := by omega
          clear hb hd hnum
          go_wp2_with fail
          go_quiet (fail)
          go_wp2_with fail
          go_roundw
          case rel => exact ⟨i + 1, _, by omega, by go_num, rfl, rfl⟩
          case measure => simp [intOf]; omega
        · obtain rfl : i = 1 := by omega
          go_wp2_with fail
          go_ret
          rw [Hr.out]
          refine ⟨by first | rfl | (refine ret_int ?_; exact tk_u8 _ (num_lt _ 1 (by simp; unfold Pk.Rd.left at hl2; omega))), ⟨?_, by unfold Pk.Rd.left at hl2; simp; omega, h.len⟩, Chg.setCell (p := ⟨g, 2, none⟩) ((Chg.refl (fun k => k = g) w).drewN _) (.inl rfl) _⟩
          show Blk _ g _ #[.bool true, S r.s, .int .i64 ((r.pos + 1 : Nat) : Int), .int .i64 r.f]
          rw [show ((r.pos + 1 : Nat) : Int) = (r.pos : Int) + 1 by omega]
          exact (h.drewN _).blk.set_ 2 _
  · have hr : r.take 1 = (0, r) := by unfold Pk.Rd.take; rw [if_pos hf]
    go_enter Tryz.func177, Tryz.ntmps177
    go_wp2_with (go_at_call 81; refine (dead_yes g r _ h hf).mono ?_; rintro e w' ⟨rfl, rfl⟩)
    go_ret
    rw [hr]
    exact ⟨rfl, Red.refl h⟩

set_option maxHeartbeats 1000000 in
set_option maxRecDepth 100000 in
theorem take_uint32 (g : Nat) (r : Pk.Rd) (w : World) (h : IsR w g r) :
    Calls Tryz.prog 54 #[.pointer (some ⟨g, 0, none⟩)] w fun e w' => e = .returned (.int .u32 (tk .u32 (r.take 4).1)) ∧ Red w w' g (r.take 4).2 := by
  have c1 := h.c1
  have c2 := h.c2
  have f2 := h.blk.frozen 2
  have le := h.le
  have len := h.len
  by_cases hf : r.f = 0
  · have Hf := Lib.hid hf
    by_cases hl : r.left < 4
    · have Hr := Lib.hid (show r.take 4 = (0, ⟨r.s, r.pos, 10⟩) by unfold Pk.Rd.take; rw [if_neg (by omega), if_pos hl])
      clear hf
      go_enter Tryz.func54, Tryz.ntmps54
      go_wp2_with (first | (go_at_call 81; refine (dead_no g r _ h Hf.out).mono ?_; rintro e w' ⟨rfl, rfl⟩) | (go_at_call 72; refine (width_uint32 _).mono ?_; rintro e w' ⟨rfl, rfl⟩) | (go_at_call 82; refine (left_calls g r _ h).mono ?_; rintro e w' ⟨rfl, nq, rfl⟩) | (go_at_call 83; refine (fail_calls g r 10 10 r.pos _ rfl (h.drewN nq) le).mono ?_; rintro e w' ⟨rfl, hred⟩))
      go_ret
      rw [Hr.out]
      exact ⟨rfl, hred.drewN⟩
    · have Hr := Lib.hid (show r.take 4 = (Pk.num ((r.s.drop r.pos).take 4), ⟨r.s, r.pos + 4, r.f⟩) by unfold Pk.Rd.take; rw [if_neg (by omega), if_neg hl])
      have hl2 : 4 ≤ r.left := by omega
      clear hf hl
      go_enter Tryz.func54, Tryz.ntmps54
      go_wp2_with (first | (go_at_call 81; refine (dead_no g r _ h Hf.out).mono ?_; rintro e w' ⟨rfl, rfl⟩) | (go_at_call 72; refine (width_uint32 _).mono ?_; rintro e w' ⟨rfl, rfl⟩) | (go_at_call 82; refine (left_calls g r _ h).mono ?_; rintro e w' ⟨rfl, nq, rfl⟩))
      go_loopw [4, 5, 20] (fun xv _ iv wr => ∃ (i m : Nat), i ≤ 4 ∧ iv = .int .i64 i ∧ xv = .int .u64 (Pk.num ((r.s.drop r.pos).take i)) ∧ wr = w.drewN m) (fun _ _ iv _ => 4 - (intOf iv).toNat)
      case atStart => exact ⟨0, nq, by omega, rfl, by simp [Pk.num], rfl⟩
      case round =>
        obtain ⟨i, m, hi, rfl, rfl, rfl⟩ := hrel
        by_cases hp : i < 4
        · have hend : r.pos + i < r.s.length := by unfold Pk.Rd.left at hl2; omega
          obtain ⟨b, hb, hd⟩ := drop_at r.s hend
          have hbi : (⟨r.s.toArray⟩ : ByteArray)[r.pos + i]'(by simpa [ByteArray.size] using hend) = b := by
            have : r.s[r.pos + i] = b := by rw [List.getElem?_eq_getElem hend] at hb; injection hb
            simpa [ByteArray.getElem_eq_getElem_data] using this
          have hnum := num_take r hend hb
          have hx := num_bits (Pk.num ((r.s.drop r.pos).take i)) i b.toNat (num_lt _ i (by simp; omega)) (by omega) b.toNat_lt
          rw [← hnum] at hx
          have hw : IntKind.i64.wrap ((r.pos : Int) + (i : Int)) = (r.pos : Int) + (i : Int) := IntWalk.i64_in _ (by omega)
          have h0 : 0 ≤ (r.pos : Int) + (i : Int) := by omega
          have h1 : (r.pos : Int) + (i : Int) < (r.s.length : Int) := by omega
          have ht : ((r.pos : Int) + (i : Int)).toNat = r.pos + i := by omega
          clear hb hd hnum
          go_wp2_with fail
          go_quiet (fail)
          go_wp2_with fail
          go_roundw
          case rel => exact ⟨i + 1, _, by omega, by go_num, rfl, rfl⟩
          case measure => simp [intOf]; omega
        · obtain rfl : i = 4 := by omega
          go_wp2_with fail
          go_ret
          rw [Hr.out]
          refine ⟨by first | rfl | (refine ret_int ?_; exact tk_u32 _ (num_lt _ 4 (by simp; unfold Pk.Rd.left at hl2; omega))), ⟨?_, by unfold Pk.Rd.left at hl2; simp; omega, h.len⟩, Chg.setCell (p := ⟨g, 2, none⟩) ((Chg.refl (fun k => k = g) w).drewN _) (.inl rfl) _⟩
          show Blk _ g _ #[.bool true, S r.s, .int .i64 ((r.pos + 4 : Nat) : Int), .int .i64 r.f]
          rw [show ((r.pos + 4 : Nat) : Int) = (r.pos : Int) + 4 by omega]
          exact (h.drewN _).blk.set_ 2 _
  · have hr : r.take 4 = (0, r) := by unfold Pk.Rd.take; rw [if_pos hf]
    go_enter Tryz.func54, Tryz.ntmps54
    go_wp2_with (go_at_call 81; refine (dead_yes g r _ h hf).mono ?_; rintro e w' ⟨rfl, rfl⟩)
    go_ret
    rw [hr]
    exact ⟨rfl, Red.refl h⟩

set_option maxHeartbeats 1000000 in
set_option maxRecDepth 100000 in
theorem take_kind (g : Nat) (r : Pk.Rd) (w : World) (h : IsR w g r) :
    Calls Tryz.prog 56 #[.pointer (some ⟨g, 0, none⟩)] w fun e w' => e = .returned (.int .u8 (tk .u8 (r.take 1).1)) ∧ Red w w' g (r.take 1).2 := by
  have c1 := h.c1
  have c2 := h.c2
  have f2 := h.blk.frozen 2
  have le := h.le
  have len := h.len
  by_cases hf : r.f = 0
  · have Hf := Lib.hid hf
    by_cases hl : r.left < 1
    · have Hr := Lib.hid (show r.take 1 = (0, ⟨r.s, r.pos, 10⟩) by unfold Pk.Rd.take; rw [if_neg (by omega), if_pos hl])
      clear hf
      go_enter Tryz.func56, Tryz.ntmps56
      go_wp2_with (first | (go_at_call 81; refine (dead_no g r _ h Hf.out).mono ?_; rintro e w' ⟨rfl, rfl⟩) | (go_at_call 71; refine (width_kind _).mono ?_; rintro e w' ⟨rfl, rfl⟩) | (go_at_call 82; refine (left_calls g r _ h).mono ?_; rintro e w' ⟨rfl, nq, rfl⟩) | (go_at_call 83; refine (fail_calls g r 10 10 r.pos _ rfl (h.drewN nq) le).mono ?_; rintro e w' ⟨rfl, hred⟩))
      go_ret
      rw [Hr.out]
      exact ⟨rfl, hred.drewN⟩
    · have Hr := Lib.hid (show r.take 1 = (Pk.num ((r.s.drop r.pos).take 1), ⟨r.s, r.pos + 1, r.f⟩) by unfold Pk.Rd.take; rw [if_neg (by omega), if_neg hl])
      have hl2 : 1 ≤ r.left := by omega
      clear hf hl
      go_enter Tryz.func56, Tryz.ntmps56
      go_wp2_with (first | (go_at_call 81; refine (dead_no g r _ h Hf.out).mono ?_; rintro e w' ⟨rfl, rfl⟩) | (go_at_call 71; refine (width_kind _).mono ?_; rintro e w' ⟨rfl, rfl⟩) | (go_at_call 82; refine (left_calls g r _ h).mono ?_; rintro e w' ⟨rfl, nq, rfl⟩))
      go_loopw [4, 5, 20] (fun xv _ iv wr => ∃ (i m : Nat), i ≤ 1 ∧ iv = .int .i64 i ∧ xv = .int .u64 (Pk.num ((r.s.drop r.pos).take i)) ∧ wr = w.drewN m) (fun _ _ iv _ => 1 - (intOf iv).toNat)
      case atStart => exact ⟨0, nq, by omega, rfl, by simp [Pk.num], rfl⟩
      case round =>
        obtain ⟨i, m, hi, rfl, rfl, rfl⟩ := hrel
        by_cases hp : i < 1
        · have hend : r.pos + i < r.s.length := by unfold Pk.Rd.left at hl2; omega
          obtain ⟨b, hb, hd⟩ := drop_at r.s hend
          have hbi : (⟨r.s.toArray⟩ : ByteArray)[r.pos + i]'(by simpa [ByteArray.size] using hend) = b := by
            have : r.s[r.pos + i] = b := by rw [List.getElem?_eq_getElem hend] at hb; injection hb
            simpa [ByteArray.getElem_eq_getElem_data] using this
          have hnum := num_take r hend hb
          have hx := num_bits (Pk.num ((r.s.drop r.pos).take i)) i b.toNat (num_lt _ i (by simp; omega)) (by omega) b.toNat_lt
          rw [← hnum] at hx
          have hw : IntKind.i64.wrap ((r.pos : Int) + (i : Int)) = (r.pos : Int) + (i : Int) := IntWalk.i64_in _ (by omega)
          have h0 : 0 ≤ (r.pos : Int) + (i : Int) := by omega
          have h1 : (r.pos : Int) + (i : Int) < (r.s.length : Int) := by omega
          have ht : ((r.pos : Int) + (i : Int)).toNat = r.pos + i := by omega
          clear hb hd hnum
          go_wp2_with fail
          go_quiet (fail)
          go_wp2_with fail
          go_roundw
          case rel => exact ⟨i + 1, _, by omega, by go_num, rfl, rfl⟩
          case measure => simp [intOf]; omega
        · obtain rfl : i = 1 := by omega
          go_wp2_with fail
          go_ret
          rw [Hr.out]
          refine ⟨by first | rfl | (refine ret_int ?_; exact tk_u8 _ (num_lt _ 1 (by simp; unfold Pk.Rd.left at hl2; omega))), ⟨?_, by unfold Pk.Rd.left at hl2; simp; omega, h.len⟩, Chg.setCell (p := ⟨g, 2, none⟩) ((Chg.refl (fun k => k = g) w).drewN _) (.inl rfl) _⟩
          show Blk _ g _ #[.bool true, S r.s, .int .i64 ((r.pos + 1 : Nat) : Int), .int .i64 r.f]
          rw [show ((r.pos + 1 : Nat) : Int) = (r.pos : Int) + 1 by omega]
          exact (h.drewN _).blk.set_ 2 _
  · have hr : r.take 1 = (0, r) := by unfold Pk.Rd.take; rw [if_pos hf]
    go_enter Tryz.func56, Tryz.ntmps56
    go_wp2_with (go_at_call 81; refine (dead_yes g r _ h hf).mono ?_; rintro e w' ⟨rfl, rfl⟩)
    go_ret
    rw [hr]
    exact ⟨rfl, Red.refl h⟩
end Go.Proofs.YthkfcfkkamffpaaGreat
namespace Go.Proofs.YthkfcfkkamffpaaGreat
open Go.RowKit
set_option linter.unusedVariables false

/-- v is a new Fault of that number and place. -/
def IsFault (w w' : World) (v : Value) (c p : Nat) : Prop := ∃ g, v = .pointer (some ⟨g, 0, none⟩) ∧ Blk w' g 146 #[.int .i64 c, .int .i64 p] ∧ Chg (fun _ => False) w w' ∧ w.heap.size ≤ g

set_option maxHeartbeats 1000000 in
set_option maxRecDepth 100000 in
theorem fault_no (g : Nat) (r : Pk.Rd) (w : World) (h : IsR w g r) (hf : r.f = 0) :
    Calls Tryz.prog 96 #[.pointer (some ⟨g, 0, none⟩)] w fun e w' => e = .returned (.pointer none) ∧ w = w' := by
  have c3 : w.cell? ⟨g, 3, none⟩ = some (.int .i64 0) := by rw [h.c3, hf]; rfl
  clear hf
  go_enter Tryz.func96, Tryz.ntmps96
  go_wp2_with fail
  go_ret
  exact ⟨rfl, rfl⟩
set_option maxHeartbeats 1000000 in
set_option maxRecDepth 100000 in
theorem fault_yes (g : Nat) (r : Pk.Rd) (w : World) (h : IsR w g r) (hf : r.f ≠ 0) :
    Calls Tryz.prog 96 #[.pointer (some ⟨g, 0, none⟩)] w fun e w' => ∃ v, e = .returned v ∧ IsFault w w' v r.f r.pos := by
  have c2 := h.c2
  have c3 := h.c3
  have hne : ((r.f : Int) == 0) = false := by simpa using hf
  clear hf
  go_enter Tryz.func96, Tryz.ntmps96
  go_wp2_with fail
  go_region
  all_goals
    go_wp2_with fail
    go_ret
    refine ⟨_, rfl, _, rfl, ?_, ?_, ?_⟩
    · exact (Blk.new w _ _).drew
    · exact ((Chg.refl _ _).alloc _).drew
    · exact Nat.le_refl _

set_option maxHeartbeats 1000000 in
set_option maxRecDepth 100000 in
theorem end_fault (g : Nat) (r : Pk.Rd) (w : World) (h : IsR w g r) (hf : r.f ≠ 0) :
    Calls Tryz.prog 58 #[.pointer (some ⟨g, 0, none⟩)] w fun e w' => ∃ v, e = .returned (.iface 143 v) ∧ IsFault w w' v r.f r.pos := by
  have c0 := h.c0
  go_enter Tryz.func58, Tryz.ntmps58
  go_wp2_with fail
  refine (fault_yes g r _ h hf).mono ?_
  rintro e w1 ⟨v, rfl, g1, rfl, hb1, hc1, hg1⟩
  go_wp2_with fail
  go_ret
  exact ⟨_, rfl, g1, rfl, hb1, hc1, hg1⟩
set_option maxHeartbeats 1000000 in
set_option maxRecDepth 100000 in
theorem end_rest (g : Nat) (r : Pk.Rd) (w : World) (h : IsR w g r) (hf : r.f = 0) (hl : 0 < r.left) :
    Calls Tryz.prog 58 #[.pointer (some ⟨g, 0, none⟩)] w fun e w' => ∃ v, e = .returned (.iface 143 v) ∧ IsFault w w' v 13 r.pos := by
  have c0 := h.c0
  have c2 := h.c2
  have Hf := Lib.hid hf
  clear hf
  go_enter Tryz.func58, Tryz.ntmps58
  go_wp2_with fail
  refine (fault_no g r _ h Hf.out).mono ?_
  rintro e w1 ⟨rfl, rfl⟩
  go_wp2_with (go_at_call 82; refine (left_calls g r _ h).mono ?_; rintro e w' ⟨rfl, nq, rfl⟩)
  go_ret
  exact ⟨_, rfl, _, rfl, Blk.new _ _ _, ((Chg.refl _ _).drewN _).alloc _, Nat.le_refl _⟩
set_option maxHeartbeats 1000000 in
set_option maxRecDepth 100000 in
theorem end_none (g : Nat) (r : Pk.Rd) (w : World) (h : IsR w g r) (hf : r.f = 0) (hl : r.left = 0) :
    Calls Tryz.prog 58 #[.pointer (some ⟨g, 0, none⟩)] w fun e w' => e = .returned .nilIface ∧ ∃ n, w' = w.drewN n := by
  have c0 := h.c0
  have Hf := Lib.hid hf
  have hl' : r.left ≤ 0 := by omega
  clear hf hl
  go_enter Tryz.func58, Tryz.ntmps58
  go_wp2_with fail
  refine (fault_no g r _ h Hf.out).mono ?_
  rintro e w1 ⟨rfl, rfl⟩
  go_wp2_with (go_at_call 82; refine (left_calls g r _ h).mono ?_; rintro e w' ⟨rfl, nq, rfl⟩)
  go_ret
  exact ⟨rfl, _, rfl⟩
end Go.Proofs.YthkfcfkkamffpaaGreat
