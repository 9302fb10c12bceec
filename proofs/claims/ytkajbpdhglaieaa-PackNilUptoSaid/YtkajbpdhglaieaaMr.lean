/-
  The document's reader (heartwoodref01.Reader): fail, Left, bound, Free, Count; the law's stands.
-/
import Derived.Test.YtkajbpdhglaieaaRraw
import Derived.Test.YtkajbpdhglaieaaRend
import Derived.Test.YtkajbpdhglaieaaList
import Derived.BigQuiet
import Derived.Deep.QuietTactic
import Derived.Deep.RegionWith
namespace Go.Proofs.Ytkajbpdhglaieaa
open Go.RowKit
set_option linter.unusedVariables false

/-- Block g is the document's Reader in the state r. -/
structure IsM (w : World) (g : Nat) (r : Pk.Rd) : Prop where
  blk : Blk w g 59 #[S r.s, .int .i64 r.pos, .int .i64 r.f]
  le : r.pos ≤ r.s.length
  len : r.s.length ≤ 140737488355328
/-- From w to w' the document's Reader g alone has turned, to r. -/
def Med (w w' : World) (g : Nat) (r : Pk.Rd) : Prop := IsM w' g r ∧ Chg (fun k => k = g) w w'
theorem IsM.chg {S : Nat → Prop} {w w' : World} {g : Nat} {r : Pk.Rd} (h : IsM w g r) (hc : Chg S w w') (hn : ¬ S g) : IsM w' g r := ⟨h.blk.chg hc hn, h.le, h.len⟩
theorem IsM.alloc {w : World} {g : Nat} {r : Pk.Rd} (h : IsM w g r) (o : Obj) : IsM (w.alloc o) g r := ⟨h.blk.alloc o, h.le, h.len⟩
theorem IsM.drewN {w : World} {g : Nat} {r : Pk.Rd} (h : IsM w g r) (n : Nat) : IsM (w.drewN n) g r := ⟨h.blk.drewN n, h.le, h.len⟩
theorem Med.refl {w : World} {g : Nat} {r : Pk.Rd} (h : IsM w g r) : Med w w g r := ⟨h, Chg.refl _ _⟩
theorem Med.then {w w1 w2 : World} {g : Nat} {r' : Pk.Rd} (h : Chg (fun k => k = g) w w1) (k : Med w1 w2 g r') : Med w w2 g r' := ⟨k.1, h.trans k.2⟩
theorem IsM.c0 {w : World} {g : Nat} {r : Pk.Rd} (h : IsM w g r) : w.cell? ⟨g, 0, none⟩ = some (S r.s) := by rw [h.blk.cell]; rfl
theorem IsM.c1 {w : World} {g : Nat} {r : Pk.Rd} (h : IsM w g r) : w.cell? ⟨g, 1, none⟩ = some (.int .i64 r.pos) := by rw [h.blk.cell]; rfl
theorem IsM.c2 {w : World} {g : Nat} {r : Pk.Rd} (h : IsM w g r) : w.cell? ⟨g, 2, none⟩ = some (.int .i64 r.f) := by rw [h.blk.cell]; rfl

set_option maxHeartbeats 400000 in
set_option maxRecDepth 100000 in
theorem mfail_calls (g : Nat) (r : Pk.Rd) (ci pi : Int) (c p : Nat) (w : World) (hci : ci = c) (hpi : pi = p) (h : IsM w g r) (hp : p ≤ r.s.length) :
    Calls Try.prog 83 #[.pointer (some ⟨g, 0, none⟩), .int .i64 ci, .int .i64 pi] w fun e w' => e = .returned (.tuple #[]) ∧ Med w w' g ⟨r.s, p, c⟩ := by
  have c1 := h.c1
  have c2 := h.c2
  have f1 := h.blk.frozen 1
  have f2 := h.blk.frozen 2
  subst hci hpi
  go_enter Try.func83, Try.ntmps83
  go_wp2_with fail
  go_end0
  exact ⟨rfl, ⟨(h.blk.set_ 2 _).set_ 1 _, hp, h.len⟩, Chg.setCell (p := ⟨g, 1, none⟩) (Chg.setCell (p := ⟨g, 2, none⟩) (Chg.refl (fun k => k = g) w) (.inl rfl) _) (.inl rfl) _⟩
set_option maxHeartbeats 400000 in
set_option maxRecDepth 100000 in
theorem mleft_calls (g : Nat) (r : Pk.Rd) (w : World) (h : IsM w g r) :
    Calls Try.prog 37 #[.pointer (some ⟨g, 0, none⟩)] w fun e w' => e = .returned (.int .i64 r.left) ∧ ∃ n, w' = w.drewN n := by
  have c0 := h.c0
  have c1 := h.c1
  have le := h.le
  have len := h.len
  go_enter Try.func37, Try.ntmps37
  go_wp2_with fail
  go_quiet (fail)
  go_wp2_with fail
  go_ret
  exact ⟨ret_int (by unfold Pk.Rd.left; omega), nq, rfl⟩
set_option maxHeartbeats 400000 in
set_option maxRecDepth 100000 in
theorem bound_calls (n : Int) (w : World) (h : I64 n) : Calls Try.prog 82 #[.int .i64 n] w fun e w' => e = .returned (.int .u64 n.toNat) ∧ w = w' := by
  unfold I64 at h
  rcases (show n < 0 ∨ 0 ≤ n by omega) with h0 | h0
  all_goals
    have e1 : IntKind.u64.wrap n = (n % 18446744073709551616) := IntKind.wrap_u64 n
    have E1 := Lib.hid e1
    clear e1
    obtain ⟨h1, h2⟩ := h
    have H2 := Lib.hid h2
    clear h2 h1
    go_enter Try.func82, Try.ntmps82
    go_wp2_with fail
    go_ret
    exact ⟨ret_int (by have := H2.out; first | omega | (rw [E1.out]; omega) | (simp only [IntKind.wrap_u64]; omega)), rfl⟩

theorem mul128 (i : Nat) (h : i ≤ 9) : 128 ^ i ≤ 9223372036854775808 := by
  rw [← Pk.pow9]; exact Nat.pow_le_pow_right (by decide) h
theorem macc (n i b : Nat) (hi : i ≤ 9) (hn : n < 128 ^ i) (hb : b < 256) (h9 : i = 9 → b ≤ 1) :
    IntKind.u64.wrap ((n : Int) + IntKind.u64.wrap ((b % 128 : Nat) * (128 ^ i : Nat))) = ((n + b % 128 * 128 ^ i : Nat) : Int) := by
  obtain ⟨h1, h2⟩ := acc_bits n i b hi hn hb h9
  have h64 : n + b % 128 * 128 ^ i < 18446744073709551616 := by
    rcases Nat.lt_or_ge i 9 with h | h
    · have h2' : 128 ^ (i + 1) ≤ 128 ^ 9 := Nat.pow_le_pow_right (by decide) (by omega)
      rw [Pk.pow9] at h2'
      omega
    · obtain rfl : i = 9 := by omega
      have := h9 rfl
      rw [Pk.pow9] at *
      have h3 : b % 128 * 9223372036854775808 ≤ 1 * 9223372036854775808 := Nat.mul_le_mul_right _ (by omega)
      omega
  rw [IntKind.wrap_u64, IntKind.wrap_u64]
  have e : ((b % 128 : Nat) : Int) * ((128 ^ i : Nat) : Int) = ((b % 128 * 128 ^ i : Nat) : Int) := by rw [Int.natCast_mul]
  rw [e]
  omega

set_option maxHeartbeats 1000000 in
set_option maxRecDepth 100000 in
theorem mfree_calls (g most : Nat) (r : Pk.Rd) (w : World) (h : IsM w g r) :
    Calls Try.prog 81 #[.pointer (some ⟨g, 0, none⟩), .int .u64 most] w fun e w' => e = .returned (.int .u64 (r.free most).1) ∧ Med w w' g (r.free most).2 := by
  have c0 := h.c0
  have c1 := h.c1
  have le := h.le
  have len := h.len
  by_cases hf : r.f = 0
  · have c2 : w.cell? ⟨g, 2, none⟩ = some (.int .i64 0) := by rw [h.c2, hf]; rfl
    have Hf := Lib.hid hf
    clear hf
    go_enter Try.func81, Try.ntmps81
    go_wp2_with fail
    go_loopw [6, 7, 8, 9] (fun nv uv iv _ wr => ∃ (i n U q : Nat), i ≤ 9 ∧ q = r.pos + i ∧ q ≤ r.s.length ∧ nv = .int .u64 n ∧ n < 128 ^ i ∧ U = 128 ^ i ∧ uv = .int .u64 U ∧ iv = .int .i64 i ∧ IsM wr g ⟨r.s, q, 0⟩ ∧ Chg (fun k => k = g) w wr ∧ Pk.get (r.s.drop r.pos) 0 0 = Pk.get (r.s.drop q) i n) (fun _ _ iv _ _ => 10 - (intOf iv).toNat)
    case atStart => exact ⟨0, 0, 1, r.pos, by omega, rfl, le, rfl, by omega, rfl, rfl, rfl, ⟨by have := h.blk; rw [Hf.out] at this; simpa using this, le, h.len⟩, Chg.refl _ _, rfl⟩
    case round =>
      obtain ⟨i, n, U, q, hi, hqi, hpi, rfl, hn, hU, rfl, rfl, hm, hc, hget⟩ := hrel
      have Hget := Lib.hid hget
      have Hn := Lib.hid hn
      have HU := Lib.hid hU
      have Hq := Lib.hid hqi
      have d0 := hm.c0
      have d1 := hm.c1
      have f1 := hm.blk.frozen 1
      simp only at d0 d1
      clear hget hn hU hqi
      by_cases hend : q < r.s.length
      · obtain ⟨b, hb, hd⟩ := drop_at r.s hend
        have hlt := b.toNat_lt
        have hbi : (⟨r.s.toArray⟩ : ByteArray)[q]'(by simpa [ByteArray.size] using hend) = b := by
          have : r.s[q] = b := by rw [List.getElem?_eq_getElem hend] at hb; injection hb
          simpa [ByteArray.getElem_eq_getElem_data] using this
        have Hd := Lib.hid hd
        clear hb hd
        have heq : ((q : Int) == r.s.length) = false := by rw [beq_eq_false_iff_ne]; omega
        have hm1 : ∀ nq, IsM (wr.drewN nq) g ⟨r.s, q, 0⟩ := fun nq => hm.drewN nq
        have hm2 : ∀ nq, IsM ((wr.drewN nq).setCell ⟨g, 1, none⟩ (.int .i64 ((q : Int) + 1))) g ⟨r.s, q + 1, 0⟩ := fun nq => ⟨(hm.blk.drewN nq).set_ 1 _, by simp only; omega, h.len⟩
        have hc2 : ∀ nq, Chg (fun k => k = g) w ((wr.drewN nq).setCell ⟨g, 1, none⟩ (.int .i64 ((q : Int) + 1))) := fun nq => (hc.drewN nq).setCell (.inl rfl) _
        have Hm1 := Lib.hid hm1
        have Hm2 := Lib.hid hm2
        have Hc2 := Lib.hid hc2
        clear hm1 hm2 hc2
        by_cases hbad : (i = 9 ∧ 1 < b.toNat) ∨ (0 < i ∧ b.toNat = 0)
        · have hr := Pk.Rd.free_bad most Hf.out (Hget.out.trans (by rw [Hd.out]; exact Pk.get_pack hbad))
          have Hr := Lib.hid hr
          clear hr
          by_cases hb1 : i = 9 ∧ 1 < b.toNat
          · obtain ⟨k1, k2⟩ := hb1
            have e9 : ((i : Int) == 9) = true := by rw [beq_iff_eq]; omega
            clear k1 hbad
            go_wp2_with fail
            go_quiet (fail)
            go_wp2_with fail
            go_quiet (fail)
            go_wp2_with fail
            refine (mfail_calls g ⟨r.s, q, 0⟩ 11 r.pos 11 r.pos _ rfl rfl (Hm1.out _) le).mono ?_
            rintro e w' ⟨rfl, hmed⟩
            go_wp2_with fail
            go_ret
            rw [Hr.out]
            exact ⟨rfl, Med.then (hc.drewN _) hmed⟩
          · have k2 : b.toNat = 0 ∧ 0 < i := by omega
            obtain ⟨k2, k3⟩ := k2
            have hb0 : ((b.toNat : Int) == 0) = true := by rw [beq_iff_eq]; omega
            have hb2 : b.toNat ≤ 1 := by omega
            have hb3 : b.toNat < 128 := by omega
            clear k2 hbad hb1
            by_cases h9 : i = 9
            · have e9 : ((i : Int) == 9) = true := by rw [beq_iff_eq]; omega
              clear h9
              go_wp2_with fail
              go_quiet (fail)
              go_wp2_with fail
              go_quiet (fail)
              go_wp2_with fail
              refine (mfail_calls g ⟨r.s, q + 1, 0⟩ 11 r.pos 11 r.pos _ rfl rfl (Hm2.out _) le).mono ?_
              rintro e w' ⟨rfl, hmed⟩
              go_wp2_with fail
              go_ret
              rw [Hr.out]
              exact ⟨rfl, Med.then (Hc2.out _) hmed⟩
            · have e9 : ((i : Int) == 9) = false := by rw [beq_eq_false_iff_ne]; omega
              clear h9
              go_wp2_with fail
              go_quiet (fail)
              go_wp2_with fail
              go_quiet (fail)
              go_wp2_with fail
              refine (mfail_calls g ⟨r.s, q + 1, 0⟩ 11 r.pos 11 r.pos _ rfl rfl (Hm2.out _) le).mono ?_
              rintro e w' ⟨rfl, hmed⟩
              go_wp2_with fail
              go_ret
              rw [Hr.out]
              exact ⟨rfl, Med.then (Hc2.out _) hmed⟩
        · have hacc := macc n i b.toNat hi Hn.out hlt (by omega)
          have hvl := (acc_bits n i b.toNat hi Hn.out hlt (by omega)).2
          have Hbad := Lib.hid hbad
          obtain ⟨v, hv⟩ : ∃ v, n + b.toNat % 128 * 128 ^ i = v := ⟨_, rfl⟩
          rw [hv] at hacc hvl
          have Hv := Lib.hid hv
          have Hvl := Lib.hid hvl
          have hacc2 : IntKind.u64.wrap ((n : Int) + IntKind.u64.wrap ((b.toNat : Int) % 128 * (U : Int))) = (v : Int) := by rw [HU.out, ← hacc]; rfl
          clear hv hvl hacc
          by_cases hsm : b.toNat < 128
          · have hr1 := Hget.out.trans ((congrArg (fun l => Pk.get l i n) Hd.out).trans (Pk.get_last Hbad.out hsm))
            rw [Hv.out] at hr1
            have q9 : (((i : Int) == 9) = true ∧ b.toNat ≤ 1 ∧ ((b.toNat : Int) == 0) = false) ∨ (((i : Int) == 9) = false ∧ ((b.toNat : Int) == 0) = false) ∨ (((i : Int) == 9) = false ∧ ((b.toNat : Int) == 0) = true ∧ i ≤ 0) := by
              simp only [beq_iff_eq, beq_eq_false_iff_ne]
              omega
            clear hbad
            by_cases hmost : most < v
            · have Hr := Lib.hid (Pk.Rd.free_most Hf.out hr1 hmost)
              clear hr1
              rcases q9 with ⟨q1, q2, q3⟩ | ⟨q1, q2⟩ | ⟨q1, q2, q3⟩
              · have Q2 := q2
                go_wp2_with fail
                go_quiet (fail)
                go_wp2_with fail
                go_quiet (fail)
                go_wp2_with fail
                refine (mfail_calls g ⟨r.s, q + 1, 0⟩ 12 r.pos 12 r.pos _ rfl rfl (Hm2.out _) le).mono ?_
                rintro e w' ⟨rfl, hmed⟩
                go_wp2_with fail
                go_ret
                rw [Hr.out]
                exact ⟨rfl, Med.then (Hc2.out _) hmed⟩
              · skip
                go_wp2_with fail
                go_quiet (fail)
                go_wp2_with fail
                go_quiet (fail)
                go_wp2_with fail
                refine (mfail_calls g ⟨r.s, q + 1, 0⟩ 12 r.pos 12 r.pos _ rfl rfl (Hm2.out _) le).mono ?_
                rintro e w' ⟨rfl, hmed⟩
                go_wp2_with fail
                go_ret
                rw [Hr.out]
                exact ⟨rfl, Med.then (Hc2.out _) hmed⟩
              · have hacc3 : IntKind.u64.wrap ((n : Int) + 0) = (v : Int) := by
                  have hb0 : b.toNat = 0 := by simpa using q2
                  rw [hb0] at hacc2
                  have h0 : IntKind.u64.wrap 0 = 0 := by decide
                  simpa [h0] using hacc2
                go_wp2_with fail
                go_quiet (fail)
                go_wp2_with fail
                go_quiet (fail)
                go_wp2_with fail
                refine (mfail_calls g ⟨r.s, q + 1, 0⟩ 12 r.pos 12 r.pos _ rfl rfl (Hm2.out _) le).mono ?_
                rintro e w' ⟨rfl, hmed⟩
                go_wp2_with fail
                go_ret
                rw [Hr.out]
                exact ⟨rfl, Med.then (Hc2.out _) hmed⟩
            · have Hr := Lib.hid (Pk.Rd.free_good Hf.out hr1 (Nat.le_of_not_lt hmost))
              have hfin : ∀ nq, Med w ((wr.drewN nq).setCell ⟨g, 1, none⟩ (.int .i64 ((q : Int) + 1))) g ⟨r.s, r.pos + (i + 1), r.f⟩ := fun nq => ⟨by have := Hm2.out nq; rw [Hq.out] at this ⊢; rw [Hf.out]; simpa [Nat.add_assoc] using this, Hc2.out nq⟩
              have Hfin := Lib.hid hfin
              clear hr1 hfin
              rcases q9 with ⟨q1, q2, q3⟩ | ⟨q1, q2⟩ | ⟨q1, q2, q3⟩
              · skip
                go_wp2_with fail
                go_quiet (fail)
                go_wp2_with fail
                go_quiet (fail)
                go_wp2_with fail
                go_ret
                rw [Hr.out]
                exact ⟨rfl, Hfin.out _⟩
              · skip
                go_wp2_with fail
                go_quiet (fail)
                go_wp2_with fail
                go_quiet (fail)
                go_wp2_with fail
                go_ret
                rw [Hr.out]
                exact ⟨rfl, Hfin.out _⟩
              · have hacc3 : IntKind.u64.wrap ((n : Int) + 0) = (v : Int) := by
                  have hb0 : b.toNat = 0 := by simpa using q2
                  rw [hb0] at hacc2
                  have h0 : IntKind.u64.wrap 0 = 0 := by decide
                  simpa [h0] using hacc2
                go_wp2_with fail
                go_quiet (fail)
                go_wp2_with fail
                go_quiet (fail)
                go_wp2_with fail
                go_ret
                rw [Hr.out]
                exact ⟨rfl, Hfin.out _⟩
          · have hr1 := Hget.out.trans ((congrArg (fun l => Pk.get l i n) Hd.out).trans (Pk.get_more Hbad.out (by omega)))
            rw [Hv.out] at hr1
            have Hr := Lib.hid hr1
            have hi9 : i < 9 := by omega
            have e9 : ((i : Int) == 9) = false := by rw [beq_eq_false_iff_ne]; omega
            have hmul : IntKind.u64.wrap ((U : Int) * 128) = ((128 ^ (i + 1) : Nat) : Int) := by
              have h1 := mul128 (i + 1) (by omega)
              have h2 : 128 ^ (i + 1) = 128 ^ i * 128 := Nat.pow_succ ..
              rw [HU.out, IntKind.wrap_u64, h2]
              rw [h2] at h1
              omega
            obtain ⟨U2, hU2⟩ : ∃ U2, U2 = 128 ^ (i + 1) := ⟨_, rfl⟩
            rw [← hU2] at hmul
            have HU2 := Lib.hid hU2
            clear hr1 hbad hU2
            go_wp2_with fail
            go_quiet (fail)
            go_wp2_with fail
            go_quiet (fail)
            go_wp2_with fail
            go_roundw
            case rel => exact ⟨i + 1, v, U2, q + 1, by omega, by have := Hq.out; omega, by omega, by first | rfl | rw [hacc2], Hvl.out, HU2.out, by first | rfl | rw [hmul], by go_num, Hm2.out _, Hc2.out _, Hr.out⟩
            case measure => simp [intOf]; omega
      · have hnil : r.s.drop q = [] := List.drop_of_length_le (by omega)
        have hr := Pk.Rd.free_bad most Hf.out (Hget.out.trans (by rw [hnil]; rfl))
        have Hr := Lib.hid hr
        clear hr hnil
        have heq : ((q : Int) == r.s.length) = true := by rw [beq_iff_eq]; omega
        go_wp2_with fail
        go_quiet (fail)
        go_wp2_with fail
        refine (mfail_calls g ⟨r.s, q, 0⟩ 10 r.pos 10 r.pos _ rfl rfl (hm.drewN _) le).mono ?_
        rintro e w' ⟨rfl, hmed⟩
        go_wp2_with fail
        go_ret
        rw [Hr.out]
        exact ⟨rfl, Med.then (hc.drewN _) hmed⟩
  · have hr := Pk.Rd.free_dead most hf
    have c2 := h.c2
    have hne : ((r.f : Int) != 0) = true := by simpa using hf
    have Hr := Lib.hid hr
    clear hr hf
    go_enter Try.func81, Try.ntmps81
    go_wp2_with fail
    go_ret
    rw [Hr.out]
    exact ⟨rfl, Med.refl h⟩

set_option maxHeartbeats 1000000 in
set_option maxRecDepth 100000 in
theorem mcount_calls (g : Nat) (most : Int) (r : Pk.Rd) (w : World) (h : IsM w g r) (hi : I64 most) :
    Calls Try.prog 38 #[.pointer (some ⟨g, 0, none⟩), .int .i64 most] w fun e w' => e = .returned (.int .i64 (r.heads most).1) ∧ Med w w' g (r.heads most).2 := by
  have c1 := h.c1
  have hs := rfree_s r most.toNat
  have le := h.le
  obtain ⟨k, hk⟩ : ∃ k, k = most.toNat := ⟨_, rfl⟩
  have hb := fun w => (bound_calls most w hi)
  rw [← hk] at hb hs
  have Hk := Lib.hid hk
  have Hb := Lib.hid hb
  clear hk hb
  go_enter Try.func38, Try.ntmps38
  go_wp2_with (go_at_call 82; refine (Hb.out _).mono ?_; rintro e w' ⟨rfl, rfl⟩)
  refine (mfree_calls g k r _ h).mono ?_
  rintro e w1 ⟨rfl, h1, hc1⟩
  obtain rfl := Hk.out
  by_cases hf : r.f = 0
  · by_cases hf2 : (r.free most.toNat).2.f = 0
    · by_cases hl : (r.free most.toNat).2.left < (r.free most.toNat).1
      · have Hr := Lib.hid (heads_most hf hf2 hl)
        generalize r.free most.toNat = p at *
        obtain ⟨n, q⟩ := p
        simp only at *
        have Hs := Lib.hid hs
        have hl' : q.left < n := hl
        have hql : q.left ≤ 140737488355328 := by have := h1.len; unfold Pk.Rd.left; omega
        have d2 : w1.cell? ⟨g, 2, none⟩ = some (.int .i64 0) := by rw [h1.c2, hf2]; rfl
        have hdec : decide (q.left < n) = true := by simp; omega
        clear hf2 hs hf
        go_wp2_with fail
        refine (mleft_calls g q _ h1).mono ?_
        rintro e w' ⟨rfl, nq, rfl⟩
        go_wp2_with fail
        refine (mfail_calls g q 12 r.pos 12 r.pos _ rfl rfl (h1.drewN nq) (by rw [Hs.out]; exact le)).mono ?_
        rintro e w' ⟨rfl, hmed⟩
        go_wp2_with fail
        go_ret
        rw [Hr.out]
        exact ⟨rfl, hmed.1, (hc1.drewN _).trans hmed.2⟩
      · have Hr := Lib.hid (heads_of hf hf2 (by omega))
        generalize r.free most.toNat = p at *
        obtain ⟨n, q⟩ := p
        simp only at *
        have hl' : n ≤ q.left := by omega
        have hql : q.left ≤ 140737488355328 := by have := h1.len; unfold Pk.Rd.left; omega
        have d2 : w1.cell? ⟨g, 2, none⟩ = some (.int .i64 0) := by rw [h1.c2, hf2]; rfl
        have hdec : decide (q.left < n) = false := by simp; omega
        clear hf2 hs hf
        go_wp2_with fail
        refine (mleft_calls g q _ h1).mono ?_
        rintro e w' ⟨rfl, nq, rfl⟩
        go_wp2_with fail
        go_ret
        rw [Hr.out]
        exact ⟨ret_int (by first | rfl | (unfold wrap64; omega)), h1.drewN _, hc1.drewN _⟩
    · have Hr := Lib.hid (heads_bad hf hf2)
      generalize r.free most.toNat = p at *
      obtain ⟨n, q⟩ := p
      simp only at *
      have d2 := h1.c2
      have hne : ((q.f : Int) != 0) = true := by simpa using hf2
      clear hf2 hs hf
      go_wp2_with fail
      go_ret
      rw [Hr.out]
      exact ⟨rfl, h1, hc1⟩
  · have Hr := Lib.hid (heads_dead (most := most) hf)
    have Hd := Lib.hid (Pk.Rd.free_dead most.toNat hf)
    rw [Hd.out] at h1
    have d2 := h1.c2
    have hne : ((r.f : Int) != 0) = true := by simpa using hf
    clear hs hf
    go_wp2_with fail
    go_ret
    rw [Hr.out]
    exact ⟨rfl, h1, hc1⟩
end Go.Proofs.Ytkajbpdhglaieaa
