/-
  Layer 3: the document's one, all, Pack. Printed by gen_rq.py.
-/
import Derived.Test.YtdicelibjpmglaaGreatDoorRp
import Derived.Deep.RegionWith
namespace Go.Proofs.YtdicelibjpmglaaGreatDoor
open Go.RowKit
set_option linter.unusedVariables false
set_option linter.unusedSimpArgs false
attribute [local go_sem] run_store_float
open Tp (It)

theorem far_U (n : Int) (h0 : -9223372036854775808 ≤ n) (h1 : n ≤ 9223372036854775807) : U64 n.natAbs := by unfold U64; omega
theorem be_wrap (q : Nat) (hq : q ≤ 8) {x : Int} {z : Nat} (h : IntKind.u64.wrap x = (z : Int)) : Pk.be q z = Pk.be q x := be_same q hq h
theorem be_pred (q : Nat) (hq : q ≤ 8) {x : Int} {y z : Nat} (h : IntKind.u64.wrap x = (y : Int)) (h2 : IntKind.u64.wrap ((y : Int) - 1) = (z : Int)) : Pk.be q z = Pk.be q (x - 1) := by
  refine be_same q hq ?_
  rw [← h2, ← h, IntKind.wrap_u64, IntKind.wrap_u64, IntKind.wrap_u64]
  omega
theorem esc_snoc (l : List UInt8) (b : UInt8) : Tp.esc (l ++ [b]) = Tp.esc l ++ (if b = 0 then [0, 255] else [b]) := by
  rw [Tp.esc_append]
  congr 1

set_option maxHeartbeats 4000000 in
set_option maxRecDepth 100000 in
theorem rone_intN (b : Bool) (n : Int) (f : Nat) (t : List UInt8) (v : Value) (hi : InIt 3 n f t) (hv : v.oneCell' = true) (hn : n < 0) (w : World) :
    Calls Tryz.prog 83 #[IV 3 b n f t v] w fun e w' => e = .returned (S (Tp.intB n)) ∧ Chg (fun _ => False) w w' := by
  have h0 := hi.n0
  have h1 := hi.n1
  have HF := Lib.hid (fun w => far_calls n w h0 h1)
  have HN := Lib.hid (fun w => need_calls n.natAbs w (far_U n h0 h1))
  obtain ⟨q, hq⟩ : ∃ q, Tp.nb n.natAbs = q := ⟨_, rfl⟩
  have hq8 : q ≤ 8 := by rw [← hq]; exact Tp.nb_le _
  have hib : Tp.intB n = if 0 ≤ n then UInt8.ofNat (20 + q) :: Pk.be q n else UInt8.ofNat (20 - q) :: Pk.be q (n - 1) := by unfold Tp.intB; rw [hq]
  rw [hq] at HN
  obtain ⟨y, hy⟩ : ∃ y : Nat, IntKind.u64.wrap n = (y : Int) := ⟨(IntKind.u64.wrap n).toNat, by rw [IntKind.wrap_u64]; omega⟩
  have hyU : U64 y := by unfold U64; rw [IntKind.wrap_u64] at hy; omega
  obtain ⟨fa, hfa⟩ : ∃ fa, n.natAbs = fa := ⟨_, rfl⟩
  rw [hfa] at HF HN
  rw [if_neg (by omega)] at hib
  obtain ⟨z, hz⟩ : ∃ z : Nat, IntKind.u64.wrap ((y : Int) - 1) = (z : Int) := ⟨(IntKind.u64.wrap ((y : Int) - 1)).toNat, by rw [IntKind.wrap_u64]; omega⟩
  have hzU : U64 z := by unfold U64; rw [IntKind.wrap_u64] at hz; omega
  have HW := Lib.hid (fun w => rwhole_I (z : Int) (q : Int) z q rfl rfl hzU hq8 w)
  have hbe := be_pred q hq8 hy hz
  rw [hbe] at HW
  have e1 : IntKind.i64.wrap (20 - (q : Int)) = ((20 - q : Nat) : Int) := by rw [IntWalk.i64_in _ (by omega)]; omega
  obtain ⟨tg, htg⟩ : ∃ tg, 20 - q = tg := ⟨_, rfl⟩
  rw [htg] at e1 hib
  have htl : tg < 256 := by omega
  have e2 : IntKind.u8.wrap (tg : Int) = (tg : Int) := by simp [IntKind.wrap, IntKind.bits, IntKind.signed]; omega
  have htb : (tg : Int) = (UInt8.ofNat tg).toNat := by simp; omega
  obtain ⟨l1, hl1⟩ : ∃ l, l = [UInt8.ofNat tg] := ⟨_, rfl⟩
  have hcv := fun w => cvt_new w tg _ htb
  have hcd := fun w => cvt_newd w tg _ htb
  rw [← hl1] at hcv hcd
  obtain ⟨bz, hbz⟩ : ∃ bz, Pk.be q (n - 1) = bz := ⟨_, rfl⟩
  have hbl : bz.length ≤ 8 := by rw [← hbz, Pk.be_length]; exact hq8
  rw [hbz] at HW hib
  have hadd := fun w => addSS l1 bz (by rw [hl1]; simp; omega) w
  have Hfin := Lib.hid (show Tp.intB n = l1 ++ bz by rw [hib, hl1]; rfl)
  have Htb := Lib.hid htb
  have Hl1 := Lib.hid hl1
  have d1 : decide (0 ≤ n) = false := by rw [decide_eq_false_iff_not]; omega
  obtain ⟨W1, hW1⟩ : ∃ W1, W1 = w.alloc (.cells #[.int .u8 3, .bool b, .int .i64 n, .float .f64 f, S t, v] 40) := ⟨_, rfl⟩
  have bw : Blk W1 w.heap.size 40 #[.int .u8 3, .bool b, .int .i64 n, .float .f64 f, S t, v] := by rw [hW1]; exact Blk.new w _ _
  have i0 : W1.cell? ⟨w.heap.size, 0, none⟩ = some (.int .u8 3) := by rw [bw.cell]; rfl
  have i2 : W1.cell? ⟨w.heap.size, 2, none⟩ = some (.int .i64 n) := by rw [bw.cell]; rfl
  have i3 : ∀ o, (W1.alloc o).cell? ⟨w.heap.size, 2, none⟩ = some (.int .i64 n) := fun o => by rw [(bw.alloc o).cell]; rfl
  have Hc := Lib.hid (show Chg (fun _ => False) w W1 by rw [hW1]; exact (Chg.refl _ w).alloc _)
  have HW1 := Lib.hid hW1
  clear hi hib hbe hbz htg htl htb hl1 hzU hyU h0 h1 hfa hq bw hn hW1
  go_enter Tryz.func83, Tryz.ntmps83
  go_wp2_with fail
  rw [← HW1.out]
  go_wp2_with fail
  refine (HF.out _).mono ?_
  rintro e w2 ⟨rfl, rfl⟩
  go_wp2_with fail
  refine (HN.out _).mono ?_
  rintro e w2 ⟨rfl, rfl⟩
  go_wp2_with fail
  go_region_with (go_at_call 112; refine (HW.out _).mono ?_; rintro e w4 ⟨rfl, c1⟩; first
      | (have hc1 := c1.cell (p := ⟨W1.heap.size, 0, none⟩) (by simp) (fun h => h); simp at hc1; have hcv1 := cvt_byte w4 ⟨W1.heap.size, 0, none⟩ tg _ Htb.out hc1; rw [← Hl1.out] at hcv1)
      | skip)
  all_goals
    go_wp2_with fail
    go_ret
    refine ⟨retS (Hfin.out).symm, (Hc.out).trans ?_⟩
    first
      | exact (((Chg.refl _ W1).alloc _).drew).trans c1
      | exact ((Chg.refl _ W1).drew.trans c1).alloc _
      | exact (((Chg.refl _ W1).drew.alloc _)).trans c1

set_option maxHeartbeats 4000000 in
set_option maxRecDepth 100000 in
theorem rone_intP (b : Bool) (n : Int) (f : Nat) (t : List UInt8) (v : Value) (hi : InIt 3 n f t) (hv : v.oneCell' = true) (hn : 0 ≤ n) (w : World) :
    Calls Tryz.prog 83 #[IV 3 b n f t v] w fun e w' => e = .returned (S (Tp.intB n)) ∧ Chg (fun _ => False) w w' := by
  have h0 := hi.n0
  have h1 := hi.n1
  have HF := Lib.hid (fun w => far_calls n w h0 h1)
  have HN := Lib.hid (fun w => need_calls n.natAbs w (far_U n h0 h1))
  obtain ⟨q, hq⟩ : ∃ q, Tp.nb n.natAbs = q := ⟨_, rfl⟩
  have hq8 : q ≤ 8 := by rw [← hq]; exact Tp.nb_le _
  have hib : Tp.intB n = if 0 ≤ n then UInt8.ofNat (20 + q) :: Pk.be q n else UInt8.ofNat (20 - q) :: Pk.be q (n - 1) := by unfold Tp.intB; rw [hq]
  rw [hq] at HN
  obtain ⟨y, hy⟩ : ∃ y : Nat, IntKind.u64.wrap n = (y : Int) := ⟨(IntKind.u64.wrap n).toNat, by rw [IntKind.wrap_u64]; omega⟩
  have hyU : U64 y := by unfold U64; rw [IntKind.wrap_u64] at hy; omega
  obtain ⟨fa, hfa⟩ : ∃ fa, n.natAbs = fa := ⟨_, rfl⟩
  rw [hfa] at HF HN
  rw [if_pos (by omega)] at hib
  have hzU : 0 ≤ 0 := Nat.le_refl 0
  have HW := Lib.hid (fun w => rwhole_I (y : Int) (q : Int) y q rfl rfl hyU hq8 w)
  have hbe := be_wrap q hq8 hy
  rw [hbe] at HW
  have e1 : IntKind.i64.wrap (20 + (q : Int)) = ((20 + q : Nat) : Int) := by rw [IntWalk.i64_in _ (by omega)]; omega
  obtain ⟨tg, htg⟩ : ∃ tg, 20 + q = tg := ⟨_, rfl⟩
  rw [htg] at e1 hib
  have htl : tg < 256 := by omega
  have e2 : IntKind.u8.wrap (tg : Int) = (tg : Int) := by simp [IntKind.wrap, IntKind.bits, IntKind.signed]; omega
  have htb : (tg : Int) = (UInt8.ofNat tg).toNat := by simp; omega
  obtain ⟨l1, hl1⟩ : ∃ l, l = [UInt8.ofNat tg] := ⟨_, rfl⟩
  have hcv := fun w => cvt_new w tg _ htb
  have hcd := fun w => cvt_newd w tg _ htb
  rw [← hl1] at hcv hcd
  obtain ⟨bz, hbz⟩ : ∃ bz, Pk.be q n = bz := ⟨_, rfl⟩
  have hbl : bz.length ≤ 8 := by rw [← hbz, Pk.be_length]; exact hq8
  rw [hbz] at HW hib
  have hadd := fun w => addSS l1 bz (by rw [hl1]; simp; omega) w
  have Hfin := Lib.hid (show Tp.intB n = l1 ++ bz by rw [hib, hl1]; rfl)
  have Htb := Lib.hid htb
  have Hl1 := Lib.hid hl1
  have d1 : decide (0 ≤ n) = true := by rw [decide_eq_true_iff]; omega
  obtain ⟨W1, hW1⟩ : ∃ W1, W1 = w.alloc (.cells #[.int .u8 3, .bool b, .int .i64 n, .float .f64 f, S t, v] 40) := ⟨_, rfl⟩
  have bw : Blk W1 w.heap.size 40 #[.int .u8 3, .bool b, .int .i64 n, .float .f64 f, S t, v] := by rw [hW1]; exact Blk.new w _ _
  have i0 : W1.cell? ⟨w.heap.size, 0, none⟩ = some (.int .u8 3) := by rw [bw.cell]; rfl
  have i2 : W1.cell? ⟨w.heap.size, 2, none⟩ = some (.int .i64 n) := by rw [bw.cell]; rfl
  have i3 : ∀ o, (W1.alloc o).cell? ⟨w.heap.size, 2, none⟩ = some (.int .i64 n) := fun o => by rw [(bw.alloc o).cell]; rfl
  have Hc := Lib.hid (show Chg (fun _ => False) w W1 by rw [hW1]; exact (Chg.refl _ w).alloc _)
  have HW1 := Lib.hid hW1
  clear hi hib hbe hbz htg htl htb hl1 hzU hyU h0 h1 hfa hq bw hn hW1
  go_enter Tryz.func83, Tryz.ntmps83
  go_wp2_with fail
  rw [← HW1.out]
  go_wp2_with fail
  refine (HF.out _).mono ?_
  rintro e w2 ⟨rfl, rfl⟩
  go_wp2_with fail
  refine (HN.out _).mono ?_
  rintro e w2 ⟨rfl, rfl⟩
  go_wp2_with fail
  go_region_with (go_at_call 112; refine (HW.out _).mono ?_; rintro e w4 ⟨rfl, c1⟩; first
      | (have hc1 := c1.cell (p := ⟨W1.heap.size, 0, none⟩) (by simp) (fun h => h); simp at hc1; have hcv1 := cvt_byte w4 ⟨W1.heap.size, 0, none⟩ tg _ Htb.out hc1; rw [← Hl1.out] at hcv1)
      | skip)
  all_goals
    go_wp2_with fail
    go_ret
    refine ⟨retS (Hfin.out).symm, (Hc.out).trans ?_⟩
    first
      | exact (((Chg.refl _ W1).alloc _).drew).trans c1
      | exact ((Chg.refl _ W1).drew.trans c1).alloc _
      | exact (((Chg.refl _ W1).drew.alloc _)).trans c1

theorem rone_int (b : Bool) (n : Int) (f : Nat) (t : List UInt8) (v : Value) (hi : InIt 3 n f t) (hv : v.oneCell' = true) (w : World) :
    Calls Tryz.prog 83 #[IV 3 b n f t v] w fun e w' => e = .returned (S (Tp.intB n)) ∧ Chg (fun _ => False) w w' := by
  rcases Int.lt_or_le n 0 with h | h
  · exact rone_intN b n f t v hi hv h w
  · exact rone_intP b n f t v hi hv h w

set_option maxHeartbeats 4000000 in
set_option maxRecDepth 100000 in
theorem rone_text (b : Bool) (n : Int) (f : Nat) (t : List UInt8) (v : Value) (ht : t.length ≤ 4096) (hv : v.oneCell' = true) (w : World) :
    Calls Tryz.prog 83 #[IV 5 b n f t v] w fun e w' => e = .returned (S (36 :: (Tp.esc t ++ [0, 1]))) ∧ Chg (fun _ => False) w w' := by
  obtain ⟨i0, hi, hz0, hz1, hz2⟩ := info_parts info_b8
  obtain ⟨W1, hW1⟩ : ∃ W1, W1 = w.alloc (.cells #[.int .u8 5, .bool b, .int .i64 n, .float .f64 f, S t, v] 40) := ⟨_, rfl⟩
  have bw : Blk W1 w.heap.size 40 #[.int .u8 5, .bool b, .int .i64 n, .float .f64 f, S t, v] := by rw [hW1]; exact Blk.new w _ _
  have j0 : W1.cell? ⟨w.heap.size, 0, none⟩ = some (.int .u8 5) := by rw [bw.cell]; rfl
  have hsz : W1.heap.size = w.heap.size + 1 := by rw [hW1]; simp
  have Hc := Lib.hid (show Chg (fun _ => False) w W1 by rw [hW1]; exact (Chg.refl _ w).alloc _)
  have HW1 := Lib.hid hW1
  have Hbw := Lib.hid bw
  have Ht := Lib.hid ht
  have Hsz := Lib.hid hsz
  have hel : ∀ k, (Tp.esc (t.take k)).length ≤ 8192 := fun k => by
    rw [Tp.esc_length]
    have h1 : (t.take k).length ≤ t.length := by rw [List.length_take]; omega
    have h2 : (t.take k).count 0 ≤ (t.take k).length := List.count_le_length
    omega
  have Hel := Lib.hid hel
  clear bw hW1 hel hsz
  go_enter Tryz.func83, Tryz.ntmps83
  go_wp2_with fail
  rw [← HW1.out]
  go_wp2_with fail
  have hown0 := World.ownsRow_lit (e := 5) (size := 1) W1 #[.int .u8 36] 1 (Nat.le_refl _) (by unfold maxLen; omega) rfl
  rw [Hsz.out] at hown0
  have Hown0 := Lib.hid (show (W1.alloc (.cells #[.int .u8 36] 5)).ownsRow (w.heap.size + 1) 5 1 (.slice (some ⟨w.heap.size + 1, 0, none⟩) 1 1) (36 :: Tp.esc (t.take 0)).length (bys (36 :: Tp.esc (t.take 0))) from by simpa [Tp.esc, bys] using hown0)
  clear hown0
  go_loopw [4, 5] (fun bv iv wr => ∃ k : Nat, k ≤ t.length ∧ iv = .int .i64 k ∧ wr.ownsRow (w.heap.size + 1) 5 1 bv (36 :: Tp.esc (t.take k)).length (bys (36 :: Tp.esc (t.take k))) ∧ Blk wr w.heap.size 40 #[.int .u8 5, .bool b, .int .i64 n, .float .f64 f, S t, v] ∧ Chg (fun _ => False) W1 wr) (fun _ iv _ => t.length - (intOf iv).toNat)
  case atStart => exact ⟨0, by omega, rfl, Hown0.out, (Hbw.out).alloc _, (Chg.refl _ W1).alloc _⟩
  case round =>
    obtain ⟨k, hk, rfl, hown, hb, hc⟩ := hrel
    have c4 : wr.cell? ⟨w.heap.size, 4, none⟩ = some (S t) := by rw [hb.cell]; rfl
    have hel := (Hel.out) k
    have hsz : w.heap.size + 1 ≤ wr.heap.size := by have := hc.size; have := Hsz.out; omega
    have Hb := Lib.hid hb
    have Hc2 := Lib.hid hc
    rcases Nat.lt_or_ge k t.length with hlt | hge
    · obtain ⟨x, hx, hgx, htx⟩ := byte_at t hlt
      have hex : Tp.esc (t.take (k + 1)) = Tp.esc (t.take k) ++ (if x = 0 then [0, 255] else [x]) := by rw [htx, esc_snoc]
      have Hown := Lib.hid hown
      have Hex := Lib.hid hex
      clear hb hc hown hex htx
      obtain ⟨ys, hys⟩ : ∃ ys, 36 :: Tp.esc (t.take k) = ys := ⟨_, rfl⟩
      rw [hys] at Hown
      have hyl : ys.length ≤ 8193 := by rw [← hys]; simp; omega
      have Hys := Lib.hid hys
      clear hys hel hx
      by_cases hx0 : x = 0
      · subst hx0
        have q0 : (((0 : UInt8).toNat : Int) == 0) = true := rfl
        go_wp2_with (first | (at_builtin; refine wpList_append_any _ rfl (.tmp 64) (.tmp 69) _ rfl (w.heap.size + 1) 5 i0 _ 1 1 Tryz.underlying51 hi hz0 hz1 hz2 rfl (by omega) _ ys.length (bys ys) rfl ((Hown.out).alloc _) (wr.heap.size + 1) (some ⟨wr.heap.size, 0, none⟩) 1 1 [_] rfl (Reads.one _ _ _ _ rfl) (by simp [Value.oneCell']) (by unfold maxLen; omega) (by omega) (by simp; omega) ?_; intro v3 w3 hown3 hgr hat; have hb3 := ((Hb.out).alloc _).grown hgr (fun e => by have := ((Hown.out).lt _ e.symm).1; omega); have hc3 := ((Hc2.out).alloc _).grown hgr (fun k hk => .inr (by have := ((Hown.out).lt k hk).1; have := Hsz.out; omega)); have c4' : w3.cell? ⟨w.heap.size, 4, none⟩ = some (S t) := (by rw [hb3.cell]; rfl); have hl3 : w.heap.size + 1 ≤ w3.heap.size := (by have := hc3.size; have := Hsz.out; omega); have Hb3 := Lib.hid hb3; have Hc3 := Lib.hid hc3; have Hown3 := Lib.hid (show w3.ownsRow (w.heap.size + 1) 5 1 v3 (ys ++ [0]).length (bys (ys ++ [0])) by rw [List.length_append, bys_append]; exact hown3); clear hb3 hc3 hgr hat hown3) | (at_builtin; refine wpList_append_any _ rfl (.tmp 76) (.tmp 77) _ rfl (w.heap.size + 1) 5 i0 _ 1 1 Tryz.underlying51 hi hz0 hz1 hz2 rfl (by omega) _ (ys ++ [0]).length (bys (ys ++ [0])) rfl ((Hown3.out).alloc _) (w3.heap.size + 1) (some ⟨w3.heap.size, 0, none⟩) 1 1 [.int .u8 255] rfl (Reads.one _ _ _ _ rfl) (by simp [Value.oneCell']) (by unfold maxLen; simp; omega) (by simp; omega) (by simp; omega) ?_; intro v4 w4 hown4 hgr4 hat4))
        go_roundw
        case rel =>
          have e : 36 :: Tp.esc (t.take (k + 1)) = (ys ++ [0]) ++ [255] := by rw [Hex.out, if_pos rfl, ← Hys.out]; simp
          refine ⟨k + 1, by omega, by go_num, ?_, ((Hb3.out).alloc _).grown hgr4 (fun e => by have := ((Hown3.out).lt _ e.symm).1; omega), ((Hc3.out).alloc _).grown hgr4 (fun k hk => .inr (by have := ((Hown3.out).lt k hk).1; have := Hsz.out; omega))⟩
          rw [e, @List.length_append _ (ys ++ [0]) [255], bys_append (ys ++ [0])]
          exact hown4
        case measure => simp [intOf]; omega
      · have q0 := bz1 hx0
        go_wp2_with (at_builtin; refine wpList_append_any _ rfl (.tmp 64) (.tmp 69) _ rfl (w.heap.size + 1) 5 i0 _ 1 1 Tryz.underlying51 hi hz0 hz1 hz2 rfl (by omega) _ ys.length (bys ys) rfl ((Hown.out).alloc _) (wr.heap.size + 1) (some ⟨wr.heap.size, 0, none⟩) 1 1 [_] rfl (Reads.one _ _ _ _ rfl) (by simp [Value.oneCell']) (by unfold maxLen; omega) (by omega) (by simp; omega) ?_; intro v3 w3 hown3 hgr hat; have hb3 := ((Hb.out).alloc _).grown hgr (fun e => by have := ((Hown.out).lt _ e.symm).1; omega); have hc3 := ((Hc2.out).alloc _).grown hgr (fun k hk => .inr (by have := ((Hown.out).lt k hk).1; have := Hsz.out; omega)); have c4' : w3.cell? ⟨w.heap.size, 4, none⟩ = some (S t) := (by rw [hb3.cell]; rfl); have hl3 : w.heap.size + 1 ≤ w3.heap.size := (by have := hc3.size; have := Hsz.out; omega); have Hb3 := Lib.hid hb3; have Hc3 := Lib.hid hc3; have Hown3 := Lib.hid (show w3.ownsRow (w.heap.size + 1) 5 1 v3 (ys ++ [x]).length (bys (ys ++ [x])) by rw [List.length_append, bys_append]; exact hown3); clear hb3 hc3 hgr hat hown3)
        go_roundw
        case rel =>
          have e : 36 :: Tp.esc (t.take (k + 1)) = ys ++ [x] := by rw [Hex.out, if_neg hx0, ← Hys.out]; simp
          refine ⟨k + 1, by omega, by go_num, ?_, Hb3.out, Hc3.out⟩
          rw [e]
          exact Hown3.out
        case measure => simp [intOf]; omega
    · obtain rfl : k = t.length := by omega
      rw [List.take_length] at hown hel
      obtain ⟨ys, hys⟩ : ∃ ys, 36 :: Tp.esc t = ys := ⟨_, rfl⟩
      rw [hys] at hown
      have hyl : ys.length ≤ 8193 := by rw [← hys]; simp; omega
      have Hown := Lib.hid hown
      have Hfin := Lib.hid (show 36 :: (Tp.esc t ++ [0, 1]) = ys ++ [0, 1] by rw [← hys]; rfl)
      clear hown hel hys hb hc
      go_wp2_with (at_builtin; refine wpList_append_any _ rfl (.tmp 79) (.tmp 80) _ rfl (w.heap.size + 1) 5 i0 _ 1 1 Tryz.underlying51 hi hz0 hz1 hz2 rfl (by omega) _ ys.length (bys ys) rfl ((Hown.out).alloc _) (wr.heap.size + 1) (some ⟨wr.heap.size, 0, none⟩) 2 2 [.int .u8 0, .int .u8 1] rfl (Reads.two _ _ _ _ _ rfl) (by simp [Value.oneCell']) (by unfold maxLen; omega) (by omega) (by simp; omega) ?_; intro v3 w3 hown3 hgr hat; have hcv := run_convert_own (P := Tryz.prog) (l := ys ++ [0, 1]) w3 51 9 5 Tryz.underlying51 Tryz.underlying5 Tryz.underlying9 (base := w.heap.size + 1) (v := v3) (by rw [List.length_append, bys_append]; exact hown3))
      go_ret
      refine ⟨retS (Hfin.out).symm, (Hc.out).trans (((Hc2.out).alloc _).grown hgr (fun k hk => .inr (by have := ((Hown.out).lt k hk).1; have := Hsz.out; omega)))⟩

set_option maxHeartbeats 4000000 in
set_option maxRecDepth 100000 in
theorem rone_float (b : Bool) (n : Int) (f : Nat) (t : List UInt8) (v : Value) (hf : U64 f) (hv : v.oneCell' = true) (w : World) :
    Calls Tryz.prog 83 #[IV 4 b n f t v] w fun e w' => e = .returned (S (32 :: Pk.be 8 (Tp.key f))) ∧ Chg (fun _ => False) w w' := by
  have HS := Lib.hid (rsorted_calls f hf)
  have hk : Tp.key f < 18446744073709551616 := Tp.key_lt f hf
  obtain ⟨c, hc⟩ : ∃ c, Tp.key f = c := ⟨_, rfl⟩
  rw [hc] at HS hk ⊢
  have HW := Lib.hid (fun w => rwhole_I (c : Int) 8 c 8 rfl rfl hk (Nat.le_refl _) w)
  have hl : (Pk.be 8 (c : Int)).length = 8 := Pk.be_length _ _
  obtain ⟨z, hz⟩ : ∃ z, Pk.be 8 (c : Int) = z := ⟨_, rfl⟩
  rw [hz] at HW hl ⊢
  have hadd := fun w => addSS [32] z (by rw [hl]; simp) w
  clear hf hk hc hz hl
  go_enter Tryz.func83, Tryz.ntmps83
  go_wp2_with fail
  refine (HS.out _).mono ?_
  rintro e w2 ⟨rfl, rfl⟩
  go_wp2_with fail
  refine (HW.out _).mono ?_
  rintro e w3 ⟨rfl, hc⟩
  go_wp2_with fail
  go_ret
  exact ⟨rfl, ((Chg.refl _ w).alloc _).trans hc⟩

set_option maxHeartbeats 4000000 in
set_option maxRecDepth 100000 in
theorem rone_list (b : Bool) (n : Int) (f : Nat) (t : List UInt8) (v : Value) (inner : List UInt8) (hl : inner.length ≤ 4096) (hv : v.oneCell' = true) (w : World)
    (hA : ∀ w2, Chg (fun _ => False) w w2 → Calls Tryz.prog 56 #[v] w2 fun e w' => e = .returned (S inner) ∧ Chg (fun _ => False) w2 w') :
    Calls Tryz.prog 83 #[IV 6 b n f t v] w fun e w' => e = .returned (S (40 :: (inner ++ [0]))) ∧ Chg (fun _ => False) w w' := by
  have HA := Lib.hid hA
  have hadd1 : ∀ w : World, (Op.stringOp .add ⟨#[40]⟩ ⟨inner.toArray⟩).run Tryz.prog w = .ok (S (40 :: inner)) w := fun w => addSS [40] inner (by simp; omega) w
  have hadd2 : ∀ w : World, (Op.stringOp .add ⟨(40 :: inner).toArray⟩ ⟨#[0]⟩).run Tryz.prog w = .ok (S (40 :: (inner ++ [0]))) w := fun w => addSS (40 :: inner) [0] (by simp; omega) w
  clear hA hl
  go_enter Tryz.func83, Tryz.ntmps83
  go_wp2_with fail
  refine (HA.out _ ((Chg.refl _ w).alloc _)).mono ?_
  rintro e w3 ⟨rfl, hc⟩
  go_wp2_with fail
  go_ret
  exact ⟨retS rfl, ((Chg.refl _ w).alloc _).trans hc⟩

set_option maxHeartbeats 4000000 in
set_option maxRecDepth 100000 in
theorem rone_small (k : Nat) (hk : k = 1 ∨ k = 2) (b : Bool) (n : Int) (f : Nat) (t inner : List UInt8) (v : Value) (hv : v.oneCell' = true) (w : World) :
    Calls Tryz.prog 83 #[IV k b n f t v] w fun e w' => e = .returned (S (Tp.one k b n f t inner)) ∧ Chg (fun _ => False) w w' := by
  rcases hk with rfl | rfl
  · rw [Tp.one1]
    go_enter Tryz.func83, Tryz.ntmps83
    go_wp2_with fail
    go_ret
    exact ⟨rfl, (Chg.refl _ w).alloc _⟩
  · rw [Tp.one2]
    cases b
    all_goals
      go_enter Tryz.func83, Tryz.ntmps83
      go_wp2_with fail
      go_ret
      exact ⟨rfl, (Chg.refl _ w).alloc _⟩
theorem rone_calls (k : Nat) (b : Bool) (n : Int) (f : Nat) (t : List UInt8) (v : Value) (ls : List It) (hk : 1 ≤ k ∧ k ≤ 6) (hi : InIt k n f t) (hlen : (Tp.one k b n f t (Tp.byt ls)).length ≤ 4096) (hv : v.oneCell' = true) (w : World)
    (hA : k = 6 → ∀ w2, Chg (fun _ => False) w w2 → Calls Tryz.prog 56 #[v] w2 fun e w' => e = .returned (S (Tp.byt ls)) ∧ Chg (fun _ => False) w2 w') :
    Calls Tryz.prog 83 #[IV k b n f t v] w fun e w' => e = .returned (S (Tp.one k b n f t (Tp.byt ls))) ∧ Chg (fun _ => False) w w' := by
  rcases (show k = 1 ∨ k = 2 ∨ k = 3 ∨ k = 4 ∨ k = 5 ∨ k = 6 by omega) with rfl | rfl | rfl | rfl | rfl | rfl
  · exact rone_small 1 (.inl rfl) b n f t _ v hv w
  · exact rone_small 2 (.inr rfl) b n f t _ v hv w
  · rw [Tp.one3]; exact rone_int b n f t v hi hv w
  · rw [Tp.one4]; exact rone_float b n f t v hi.f hv w
  · rw [Tp.one5] at hlen ⊢
    refine rone_text b n f t v ?_ hv w
    simp only [List.length_cons, List.length_append, Tp.esc_length, List.length_nil] at hlen
    omega
  · rw [Tp.one6] at hlen ⊢
    refine rone_list b n f t v (Tp.byt ls) ?_ hv w (hA rfl)
    simp only [List.length_cons, List.length_append, List.length_nil] at hlen
    omega
theorem byt_append (l m : List It) : Tp.byt (l ++ m) = Tp.byt l ++ Tp.byt m := by
  induction l with
  | nil => simp [Tp.byt]
  | cons x l ih => obtain ⟨k, b, n, f, t, ls⟩ := x; simp only [List.cons_append, Tp.byt, ih, List.append_assoc]

set_option maxHeartbeats 8000000 in
set_option maxRecDepth 100000 in
theorem rall_calls {w0 : World} {B : Nat} {v : Value} {l : List It} (hrow : Row w0 B v l) : ∀ (w : World), Keep w0 B w → Tp.okB l = true → (Tp.byt l).length ≤ 4096 →
    Calls Tryz.prog 56 #[v] w fun e w' => e = .returned (S (Tp.byt l)) ∧ Chg (fun _ => False) w w' := by
  induction hrow with
  | nil A0 cap0 hcap0 =>
    intro w hk hok hs
    go_enter Tryz.func56, Tryz.ntmps56
    go_wp2_with fail
    go_loopw [3, 4] (fun sv jv wr => sv = S [] ∧ jv = .int .i64 0 ∧ wr = w) (fun _ _ _ => 0)
    case atStart => exact ⟨rfl, rfl, rfl⟩
    case round =>
      obtain ⟨rfl, rfl, rfl⟩ := hrel
      go_wp2_with fail
      go_ret
      exact ⟨by simp [Tp.byt], Chg.refl _ _⟩
  | mk gr off cap l vs hgr hl hcap hc1 hin hcells hr ih =>
    intro w hk hok hs
    have Hok := Lib.hid hok
    have Hs := Lib.hid hs
    clear hok hs
    go_enter Tryz.func56, Tryz.ntmps56
    go_wp2_with fail
    go_loopw [3, 4] (fun sv jv wr => ∃ j : Nat, j ≤ l.length ∧ sv = S (Tp.byt (l.take j)) ∧ jv = .int .i64 j ∧ Chg (fun _ => False) w wr) (fun _ jv _ => l.length - (intOf jv).toNat)
    case atStart => exact ⟨0, by omega, by simp [Tp.byt], rfl, Chg.refl _ _⟩
    case round =>
      obtain ⟨j, hj, rfl, rfl, hc'⟩ := hrel
      rcases Nat.lt_or_ge j l.length with hlt | hge
      · obtain ⟨⟨xk, xb, xn, xf, xt, xl⟩, hx⟩ : ∃ x, l[j]? = some x := ⟨_, List.getElem?_eq_getElem hlt⟩
        obtain ⟨xv, hxv⟩ : ∃ v, vs[j]? = some v := ⟨_, List.getElem?_eq_getElem (by omega)⟩
        have hin1 := hin xk xb xn xf xt xl (List.mem_of_getElem? hx)
        obtain ⟨hm, hokx⟩ := Tp.okB_mem (Hok.out) (List.mem_of_getElem? hx)
        have hxk := Tp.mayB_kind hm
        have hsx : Tp.byt (l.take (j + 1)) = Tp.byt (l.take j) ++ Tp.one xk xb xn xf xt (Tp.byt xl) := by
          rw [take_snoc hx, byt_append]; simp [Tp.byt]
        have hle : (Tp.byt (l.take (j + 1))).length ≤ 4096 := by
          have h1 := byt_append (l.take (j + 1)) (l.drop (j + 1))
          rw [List.take_append_drop] at h1
          have h2 := Hs.out
          rw [h1, List.length_append] at h2
          omega
        rw [hsx, List.length_append] at hle
        have hinl : xk = 6 → (Tp.byt xl).length ≤ 4096 := fun h6 => by
          subst h6
          rw [Tp.one6] at hle
          simp only [List.length_cons, List.length_append, List.length_nil] at hle
          omega
        have hk' := hk.chg hc' (fun k hkB e => e)
        have hcell : ∀ q u, (icells xk xb xn xf xt xv)[q]? = some u → wr.cell? ⟨gr, off + j * 6 + q, none⟩ = some u := fun q u hq => by
          rw [hk'.1 _ hgr]; exact hcells j xk xb xn xf xt xl xv hx hxv q u hq
        have c0 := hcell 0 _ rfl
        have c1 := hcell 1 _ rfl
        have c2 := hcell 2 _ rfl
        have c3 := hcell 3 _ rfl
        have c4 := hcell 4 _ rfl
        have c5 := hcell 5 _ rfl
        obtain ⟨A, xcap, hxv2, hxc1, hxc2⟩ := (hr j xk xb xn xf xt xl xv hx hxv).slice
        rw [Nat.add_zero] at c0
        have HI := Lib.hid (rone_calls xk xb xn xf xt xv xl hxk hin1 (by omega) (by rw [hxv2]; rfl) wr (fun h6 w2 hc2 => ih j xk xb xn xf xt xl _ hx hxv w2 (hk'.chg hc2 (fun k hkB e => e)) hokx (hinl h6)))
        have hadd := fun w => addSS (Tp.byt (l.take j)) (Tp.one xk xb xn xf xt (Tp.byt xl)) (by omega) w
        have Hsx := Lib.hid hsx
        have Hc' := Lib.hid hc'
        obtain ⟨p, hp⟩ : ∃ p, Tp.byt (l.take j) = p := ⟨_, rfl⟩
        obtain ⟨q, hq⟩ : ∃ q, Tp.one xk xb xn xf xt (Tp.byt xl) = q := ⟨_, rfl⟩
        rw [hp, hq] at hadd Hsx
        rw [hq] at HI
        rw [hp]
        clear hin1 hm hokx hxk hsx hle hinl hk' hk hin hcells hr ih hx hxv hc' hl hcell hp hq hxv2
        go_wp2_with fail
        refine HI.out.mono ?_
        rintro e w2 ⟨rfl, hc2⟩
        go_wp2_with fail
        go_roundw
        case rel => exact ⟨j + 1, by omega, by rw [Hsx.out], by go_num, (Hc'.out).trans hc2⟩
        case measure => simp [intOf]; omega
      · have hjl : j = l.length := by omega
        have Hfin := Lib.hid (show Tp.byt (l.take j) = Tp.byt l by rw [hjl, List.take_length])
        have Hc' := Lib.hid hc'
        have hnl : ¬ ((j : Int) < (l.length : Int)) := by omega
        have hnl2 : decide ((j : Int) < (l.length : Int)) = false := by rw [decide_eq_false_iff_not]; omega
        clear hk hin hcells hr ih hc' hl
        go_wp2_with fail
        go_ret
        exact ⟨by first | exact retS Hfin.out | rfl, Hc'.out⟩

set_option maxHeartbeats 4000000 in
set_option maxRecDepth 100000 in
theorem rpack_calls {w0 : World} {B : Nat} {v : Value} {l : List It} (hrow : Row w0 B v l) (w : World) (hk : Keep w0 B w) (hs : Tp.sz l ≤ 1000000000000) :
    Calls Tryz.prog 32 #[v] w fun e w' => e = .returned (.tuple #[S (Tp.pack l), .int .i64 (Tp.check l)]) ∧ Chg (fun _ => False) w w' := by
  have HC := Lib.hid (rcheck_calls hrow w hk hs)
  have HL := Lib.hid (fun (hok : Tp.okB l = true) (hl : (Tp.byt l).length ≤ 4096) w2 (hc : Chg (fun _ => False) w w2) => rall_calls hrow w2 (hk.chg hc (fun k hkB e => e)) hok hl)
  obtain ⟨A, cap, rfl, -, -⟩ := hrow.slice
  obtain ⟨c, hc⟩ : ∃ c, Tp.check l = c := ⟨_, rfl⟩
  have Hok := Lib.hid (fun h : c = 0 => Tp.check_ok (hc.trans h))
  have Hp := Lib.hid (show Tp.pack l = if c = 0 then Tp.byt l else [] by unfold Tp.pack; rw [hc])
  rw [hc] at HC ⊢
  clear hrow hk hs hc
  by_cases h0 : c = 0
  · subst h0
    obtain ⟨-, -, hok, hbl⟩ := Hok.out rfl
    have HL := Lib.hid (HL.out hok hbl)
    have Hp := Lib.hid (Hp.out.trans (if_pos rfl))
    clear hok hbl
    go_enter Tryz.func32, Tryz.ntmps32
    go_wp2_with fail
    refine HC.out.mono ?_
    rintro e w2 ⟨rfl, hc2⟩
    go_wp2_with fail
    refine (HL.out w2 hc2).mono ?_
    rintro e w3 ⟨rfl, hc3⟩
    go_wp2_with fail
    go_ret2
    rw [Hp.out]
    exact ⟨rfl, hc2.trans hc3⟩
  · have c1 : (c != 0) = true := by simpa using h0
    have c2 : (c == 0) = false := by simpa using h0
    have Hp := Lib.hid (Hp.out.trans (if_neg h0))
    clear h0
    go_enter Tryz.func32, Tryz.ntmps32
    go_wp2_with fail
    refine HC.out.mono ?_
    rintro e w2 ⟨rfl, hc2⟩
    go_wp2_with fail
    go_ret2
    rw [Hp.out]
    exact ⟨rfl, hc2⟩
end Go.Proofs.YtdicelibjpmglaaGreatDoor
