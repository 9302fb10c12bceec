/-
  pack.Reader.Free: what it reads.
-/
import Derived.Test.YtkajbpdhglaieaaRd
namespace Go.Proofs.Ytkajbpdhglaieaa
open Go.RowKit
set_option linter.unusedVariables false

set_option maxHeartbeats 1000000 in
set_option maxRecDepth 100000 in
theorem rfree_calls (g most : Nat) (r : Pk.Rd) (w : World) (h : IsR w g r) :
    Calls Try.prog 31 #[.pointer (some ⟨g, 0, none⟩), .int .u64 most] w fun e w' => e = .returned (.int .u64 (r.free most).1) ∧ Red w w' g (r.free most).2 := by
  have c1 := h.c1
  have c2 := h.c2
  have f2 := h.blk.frozen 2
  have le := h.le
  have len := h.len
  by_cases hf : r.f = 0
  · have Hf := Lib.hid hf
    clear hf
    go_enter Try.func31, Try.ntmps31
    go_wp2_with (go_at_call 70; refine (dead_no g r _ h Hf.out).mono ?_; rintro e w' ⟨rfl, rfl⟩)
    go_loop [5, 6, 7, 8] (fun nv av sv _ => ∃ (i n : Nat), i ≤ 9 ∧ r.pos + i ≤ r.s.length ∧ nv = .int .u64 n ∧ n < 128 ^ i ∧ av = .int .i64 ((r.pos : Int) + i) ∧ sv = .int .u64 (7 * (i : Int)) ∧ Pk.get (r.s.drop r.pos) 0 0 = Pk.get (r.s.drop (r.pos + i)) i n) (fun _ _ sv _ => 70 - (intOf sv).toNat)
    case atStart => exact ⟨0, 0, by omega, by omega, rfl, by omega, by simp, rfl, by simp⟩
    case round =>
      obtain ⟨i, n, hi, hpi, rfl, hn, rfl, rfl, hget⟩ := hrel
      have Hget := Lib.hid hget
      have Hn := Lib.hid hn
      clear hget hn
      by_cases hend : r.pos + i < r.s.length
      · obtain ⟨b, hb, hd⟩ := drop_at r.s hend
        have hlt := b.toNat_lt
        have hbi : (⟨r.s.toArray⟩ : ByteArray)[r.pos + i]'(by simpa [ByteArray.size] using hend) = b := by
          have : r.s[r.pos + i] = b := by rw [List.getElem?_eq_getElem hend] at hb; injection hb
          simpa [ByteArray.getElem_eq_getElem_data] using this
        have Hd := Lib.hid hd
        clear hb hd
        by_cases hbad : (i = 9 ∧ 1 < b.toNat) ∨ (0 < i ∧ b.toNat = 0)
        · have hr := Pk.Rd.free_bad most Hf.out (Hget.out.trans (by rw [Hd.out]; exact Pk.get_pack hbad))
          have Hr := Lib.hid hr
          clear hr
          rcases hbad with ⟨k1, k2⟩ | ⟨k1, k2⟩
          · have k1' : 9 ≤ i := by omega
            clear k1
            go_wp2_with (go_at_call 71; refine (fail_calls g r 11 11 r.pos _ rfl h le).mono ?_; rintro e w' ⟨rfl, hred⟩)
            go_ret
            rw [Hr.out]
            exact ⟨rfl, hred⟩
          · have k2' : b.toNat ≤ 0 := by omega
            clear k2
            have hb0 : ((b.toNat : Int) == 0) = true := by simp; omega
            rcases (show i < 9 ∨ 9 ≤ i by omega) with k3 | k3
            · go_wp2_with (go_at_call 71; refine (fail_calls g r 11 11 r.pos _ rfl h le).mono ?_; rintro e w' ⟨rfl, hred⟩)
              go_ret
              rw [Hr.out]
              exact ⟨rfl, hred⟩
            · go_wp2_with (go_at_call 71; refine (fail_calls g r 11 11 r.pos _ rfl h le).mono ?_; rintro e w' ⟨rfl, hred⟩)
              go_ret
              rw [Hr.out]
              exact ⟨rfl, hred⟩
        · have hacc := acc_bits n i b.toNat hi Hn.out hlt (by omega)
          have Hbad := Lib.hid hbad
          obtain ⟨v, hv⟩ : ∃ v, n + b.toNat % 128 * 128 ^ i = v := ⟨_, rfl⟩
          rw [hv] at hacc
          have Hv := Lib.hid hv
          obtain ⟨hacc, hvlt⟩ := hacc
          have Hvlt := Lib.hid hvlt
          clear hv hvlt
          have q9 : (i < 9 ∧ 0 < i ∧ 0 < b.toNat) ∨ (i < 9 ∧ i ≤ 0) ∨ (9 ≤ i ∧ 0 < b.toNat ∧ b.toNat ≤ 1) := by omega
          clear hbad
          by_cases hsm : b.toNat < 128
          · have hr1 := Hget.out.trans ((congrArg (fun l => Pk.get l i n) Hd.out).trans (Pk.get_last Hbad.out hsm))
            rw [Hv.out] at hr1
            by_cases hm : most < v
            · have Hr := Lib.hid (Pk.Rd.free_most Hf.out hr1 hm)
              clear hr1
              rcases q9 with ⟨q1, q2, q3⟩ | ⟨q1, q2⟩ | ⟨q1, q2, q3⟩
              · go_wp2_with (go_at_call 71; refine (fail_calls g r 12 12 r.pos _ rfl h le).mono ?_; rintro e w' ⟨rfl, hred⟩)
                go_ret
                rw [Hr.out]
                exact ⟨rfl, hred⟩
              · go_wp2_with (go_at_call 71; refine (fail_calls g r 12 12 r.pos _ rfl h le).mono ?_; rintro e w' ⟨rfl, hred⟩)
                go_ret
                rw [Hr.out]
                exact ⟨rfl, hred⟩
              · obtain rfl : i = 9 := by omega
                simp only [Nat.reduceMul, Int.reducePow] at hacc
                have hbz : ((b.toNat : Int) == 0) = false := by simp; omega
                go_wp2_with (go_at_call 71; refine (fail_calls g r 12 12 r.pos _ rfl h le).mono ?_; rintro e w' ⟨rfl, hred⟩)
                go_ret
                rw [Hr.out]
                exact ⟨rfl, hred⟩
            · have Hr := Lib.hid (Pk.Rd.free_good Hf.out hr1 (Nat.le_of_not_lt hm))
              clear hr1
              rcases q9 with ⟨q1, q2, q3⟩ | ⟨q1, q2⟩ | ⟨q1, q2, q3⟩
              · go_wp2_with fail
                go_ret
                rw [Hr.out]
                refine ⟨rfl, ⟨?_, by simp; omega, h.len⟩, Chg.setCell (p := ⟨g, 2, none⟩) (Chg.refl (fun k => k = g) w) (.inl rfl) _⟩
                have := h.blk.set_ 2 (.int .i64 ((r.pos : Int) + i + 1))
                simpa [Int.add_assoc] using this
              · go_wp2_with fail
                go_ret
                rw [Hr.out]
                refine ⟨rfl, ⟨?_, by simp; omega, h.len⟩, Chg.setCell (p := ⟨g, 2, none⟩) (Chg.refl (fun k => k = g) w) (.inl rfl) _⟩
                have := h.blk.set_ 2 (.int .i64 ((r.pos : Int) + i + 1))
                simpa [Int.add_assoc] using this
              · obtain rfl : i = 9 := by omega
                simp only [Nat.reduceMul, Int.reducePow] at hacc
                have hbz : ((b.toNat : Int) == 0) = false := by simp; omega
                go_wp2_with fail
                go_ret
                rw [Hr.out]
                refine ⟨rfl, ⟨?_, by simp; omega, h.len⟩, Chg.setCell (p := ⟨g, 2, none⟩) (Chg.refl (fun k => k = g) w) (.inl rfl) _⟩
                have := h.blk.set_ 2 (.int .i64 ((r.pos : Int) + 9 + 1))
                simpa [Int.add_assoc] using this
          · have hr1 := Hget.out.trans ((congrArg (fun l => Pk.get l i n) Hd.out).trans (Pk.get_more Hbad.out (by omega)))
            rw [Hv.out] at hr1
            have Hr := Lib.hid hr1
            clear hr1
            rcases q9 with ⟨q1, q2, q3⟩ | ⟨q1, q2⟩ | ⟨q1, q2, q3⟩
            · go_wp2_with fail
              go_round
              case rel => exact ⟨i + 1, v, by omega, by omega, rfl, Hvlt.out, by go_num, by go_num, Hr.out⟩
              case measure => simp [intOf]; omega
            · go_wp2_with fail
              go_round
              case rel => exact ⟨i + 1, v, by omega, by omega, rfl, Hvlt.out, by go_num, by go_num, Hr.out⟩
              case measure => simp [intOf]; omega
            · omega
      · have hnil : r.s.drop (r.pos + i) = [] := List.drop_of_length_le (by omega)
        have hr := Pk.Rd.free_bad most Hf.out (Hget.out.trans (by rw [hnil]; rfl))
        have Hr := Lib.hid hr
        clear hr hnil
        have heq : ((r.pos : Int) + i == r.s.length) = true := by simp; omega
        go_wp2_with (go_at_call 71; refine (fail_calls g r 10 10 r.pos _ rfl h le).mono ?_; rintro e w' ⟨rfl, hred⟩)
        go_ret
        rw [Hr.out]
        exact ⟨rfl, hred⟩
  · have hr := Pk.Rd.free_dead most hf
    go_enter Try.func31, Try.ntmps31
    go_wp2_with (go_at_call 70; refine (dead_yes g r _ h hf).mono ?_; rintro e w' ⟨rfl, rfl⟩)
    go_ret
    rw [hr]
    exact ⟨rfl, Red.refl h⟩
end Go.Proofs.Ytkajbpdhglaieaa
