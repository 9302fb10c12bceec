/-
  Layer 27: messages compared. Printed by gen_yc.py.
-/
import Derived.Test.YthkfcfkkamffpaaGreatYd
namespace Go.Proofs.YthkfcfkkamffpaaGreat
open Go.RowKit
set_option linter.unusedVariables false
set_option linter.unusedSimpArgs false
open Wm (M)
attribute [local go_sem ↓] ld_dig st_dig ld_head st_head ld_entry st_entry

set_option maxHeartbeats 4000000 in
set_option maxRecDepth 100000 in
theorem same_0 (m n : M) (L K : Ls) (w : World) (hm : Nm m) (hn : Nm n) (hl : IsL w m L) (hk : IsL w n K) (e0 : ¬ (m.trail = n.trail)) :
    Calls Tryz.prog 25 #[.agg (mcells m L), .agg (mcells n K)] w fun e w' => e = .returned (.bool false) ∧ Chg (fun _ => False) w w' := by
  have b0 : Blk ((w.alloc (.cells (mcells m L) 36)).alloc (.cells (mcells n K) 36)) w.heap.size 36 (mcells m L) := (Blk.new w 36 (mcells m L)).alloc _
  have b1 : Blk ((w.alloc (.cells (mcells m L) 36)).alloc (.cells (mcells n K) 36)) (w.heap.size + 1) 36 (mcells n K) := by
    have := Blk.new (w.alloc (.cells (mcells m L) 36)) 36 (mcells n K)
    simpa using this
  have fm := IsM.mf b0 hm.hd
  have fn := IsM.mf b1 hn.hd
  have ch : Chg (fun _ => False) w ((w.alloc (.cells (mcells m L) 36)).alloc (.cells (mcells n K) 36)) := ((Chg.refl _ w).alloc _).alloc _
  have lm := hl.chg ch (LOff.no _)
  have ln := hk.chg ch (LOff.no _)
  obtain ⟨A0, c0, x0, r0⟩ := lm.t
  obtain ⟨B0, d0, y0, s0⟩ := ln.t
  have ua0 := fm.t.trans (congrArg some x0)
  have va0 := fn.t.trans (congrArg some y0)
  have E0 := Lib.hid (same_list (fun k => equal_dig A0 B0 c0 d0 m.trail n.trail (((w.alloc (.cells (mcells m L) 36)).alloc (.cells (mcells n K) 36)).drewN k) (r0.drewN k) (s0.drewN k) hm.nt hn.nt hm.trail hn.trail) false (decide_eq_false e0) ((w.alloc (.cells (mcells m L) 36)).alloc (.cells (mcells n K) 36)) (drew_zero _))
  have Ch := Lib.hid ch
  clear ch b0 b1 fm fn lm ln hm hn hl hk r0 s0 x0 y0 e0
  go_enter Tryz.func25, Tryz.ntmps25
  go_wp2_with fail
  refine (E0.out).mono ?_
  rintro e w0 ⟨rfl, n0, rfl⟩
  generalize hWW : ((w.alloc (.cells (mcells m L) 36)).alloc (.cells (mcells n K) 36)) = W0 at *
  clear hWW ua0 va0
  go_wp2_with fail
  go_ret
  exact ⟨rfl, (Ch.out).drewN _⟩

set_option maxHeartbeats 4000000 in
set_option maxRecDepth 100000 in
theorem same_1 (m n : M) (L K : Ls) (w : World) (hm : Nm m) (hn : Nm n) (hl : IsL w m L) (hk : IsL w n K) (e0 : (m.trail = n.trail)) (e1 : ¬ (m.since = n.since)) :
    Calls Tryz.prog 25 #[.agg (mcells m L), .agg (mcells n K)] w fun e w' => e = .returned (.bool false) ∧ Chg (fun _ => False) w w' := by
  have b0 : Blk ((w.alloc (.cells (mcells m L) 36)).alloc (.cells (mcells n K) 36)) w.heap.size 36 (mcells m L) := (Blk.new w 36 (mcells m L)).alloc _
  have b1 : Blk ((w.alloc (.cells (mcells m L) 36)).alloc (.cells (mcells n K) 36)) (w.heap.size + 1) 36 (mcells n K) := by
    have := Blk.new (w.alloc (.cells (mcells m L) 36)) 36 (mcells n K)
    simpa using this
  have fm := IsM.mf b0 hm.hd
  have fn := IsM.mf b1 hn.hd
  have ch : Chg (fun _ => False) w ((w.alloc (.cells (mcells m L) 36)).alloc (.cells (mcells n K) 36)) := ((Chg.refl _ w).alloc _).alloc _
  have lm := hl.chg ch (LOff.no _)
  have ln := hk.chg ch (LOff.no _)
  obtain ⟨A0, c0, x0, r0⟩ := lm.t
  obtain ⟨B0, d0, y0, s0⟩ := ln.t
  have ua0 := fm.t.trans (congrArg some x0)
  have va0 := fn.t.trans (congrArg some y0)
  have E0 := Lib.hid (same_list (fun k => equal_dig A0 B0 c0 d0 m.trail n.trail (((w.alloc (.cells (mcells m L) 36)).alloc (.cells (mcells n K) 36)).drewN k) (r0.drewN k) (s0.drewN k) hm.nt hn.nt hm.trail hn.trail) true (decide_eq_true e0) ((w.alloc (.cells (mcells m L) 36)).alloc (.cells (mcells n K) 36)) (drew_zero _))
  obtain ⟨A1, c1, x1, r1⟩ := lm.s
  obtain ⟨B1, d1, y1, s1⟩ := ln.s
  have ua1 := fm.s.trans (congrArg some x1)
  have va1 := fn.s.trans (congrArg some y1)
  have E1 := Lib.hid (same_list (fun k => equal_dig A1 B1 c1 d1 m.since n.since (((w.alloc (.cells (mcells m L) 36)).alloc (.cells (mcells n K) 36)).drewN k) (r1.drewN k) (s1.drewN k) hm.ns hn.ns hm.since hn.since) false (decide_eq_false e1))
  have Ch := Lib.hid ch
  clear ch b0 b1 fm fn lm ln hm hn hl hk r0 s0 x0 y0 r1 s1 x1 y1 e0 e1
  go_enter Tryz.func25, Tryz.ntmps25
  go_wp2_with fail
  refine (E0.out).mono ?_
  rintro e w0 ⟨rfl, n0, rfl⟩
  generalize hWW : ((w.alloc (.cells (mcells m L) 36)).alloc (.cells (mcells n K) 36)) = W0 at *
  clear hWW ua0 va0
  go_wp2_with fail
  refine (E1.out _ ⟨_, rfl⟩).mono ?_
  rintro e w1 ⟨rfl, n1, rfl⟩
  clear ua1 va1
  go_wp2_with fail
  go_ret
  exact ⟨rfl, (Ch.out).drewN _⟩

set_option maxHeartbeats 4000000 in
set_option maxRecDepth 100000 in
theorem same_2 (m n : M) (L K : Ls) (w : World) (hm : Nm m) (hn : Nm n) (hl : IsL w m L) (hk : IsL w n K) (e0 : (m.trail = n.trail)) (e1 : (m.since = n.since)) (e2 : ¬ (m.pairs = n.pairs)) :
    Calls Tryz.prog 25 #[.agg (mcells m L), .agg (mcells n K)] w fun e w' => e = .returned (.bool false) ∧ Chg (fun _ => False) w w' := by
  have b0 : Blk ((w.alloc (.cells (mcells m L) 36)).alloc (.cells (mcells n K) 36)) w.heap.size 36 (mcells m L) := (Blk.new w 36 (mcells m L)).alloc _
  have b1 : Blk ((w.alloc (.cells (mcells m L) 36)).alloc (.cells (mcells n K) 36)) (w.heap.size + 1) 36 (mcells n K) := by
    have := Blk.new (w.alloc (.cells (mcells m L) 36)) 36 (mcells n K)
    simpa using this
  have fm := IsM.mf b0 hm.hd
  have fn := IsM.mf b1 hn.hd
  have ch : Chg (fun _ => False) w ((w.alloc (.cells (mcells m L) 36)).alloc (.cells (mcells n K) 36)) := ((Chg.refl _ w).alloc _).alloc _
  have lm := hl.chg ch (LOff.no _)
  have ln := hk.chg ch (LOff.no _)
  obtain ⟨A0, c0, x0, r0⟩ := lm.t
  obtain ⟨B0, d0, y0, s0⟩ := ln.t
  have ua0 := fm.t.trans (congrArg some x0)
  have va0 := fn.t.trans (congrArg some y0)
  have E0 := Lib.hid (same_list (fun k => equal_dig A0 B0 c0 d0 m.trail n.trail (((w.alloc (.cells (mcells m L) 36)).alloc (.cells (mcells n K) 36)).drewN k) (r0.drewN k) (s0.drewN k) hm.nt hn.nt hm.trail hn.trail) true (decide_eq_true e0) ((w.alloc (.cells (mcells m L) 36)).alloc (.cells (mcells n K) 36)) (drew_zero _))
  obtain ⟨A1, c1, x1, r1⟩ := lm.s
  obtain ⟨B1, d1, y1, s1⟩ := ln.s
  have ua1 := fm.s.trans (congrArg some x1)
  have va1 := fn.s.trans (congrArg some y1)
  have E1 := Lib.hid (same_list (fun k => equal_dig A1 B1 c1 d1 m.since n.since (((w.alloc (.cells (mcells m L) 36)).alloc (.cells (mcells n K) 36)).drewN k) (r1.drewN k) (s1.drewN k) hm.ns hn.ns hm.since hn.since) true (decide_eq_true e1))
  obtain ⟨A2, c2, x2, r2⟩ := lm.p
  obtain ⟨B2, d2, y2, s2⟩ := ln.p
  have ua2 := fm.p.trans (congrArg some x2)
  have va2 := fn.p.trans (congrArg some y2)
  have E2 := Lib.hid (same_list (fun k => equal_pair A2 B2 c2 d2 m.pairs n.pairs (((w.alloc (.cells (mcells m L) 36)).alloc (.cells (mcells n K) 36)).drewN k) (r2.drewN k) (s2.drewN k) hm.np hn.np) false (decide_eq_false e2))
  have Ch := Lib.hid ch
  clear ch b0 b1 fm fn lm ln hm hn hl hk r0 s0 x0 y0 r1 s1 x1 y1 r2 s2 x2 y2 e0 e1 e2
  go_enter Tryz.func25, Tryz.ntmps25
  go_wp2_with fail
  refine (E0.out).mono ?_
  rintro e w0 ⟨rfl, n0, rfl⟩
  generalize hWW : ((w.alloc (.cells (mcells m L) 36)).alloc (.cells (mcells n K) 36)) = W0 at *
  clear hWW ua0 va0
  go_wp2_with fail
  refine (E1.out _ ⟨_, rfl⟩).mono ?_
  rintro e w1 ⟨rfl, n1, rfl⟩
  clear ua1 va1
  go_wp2_with fail
  refine (E2.out _ ⟨_, rfl⟩).mono ?_
  rintro e w2 ⟨rfl, n2, rfl⟩
  clear ua2 va2
  go_wp2_with fail
  go_ret
  exact ⟨rfl, (Ch.out).drewN _⟩

set_option maxHeartbeats 4000000 in
set_option maxRecDepth 100000 in
theorem same_3 (m n : M) (L K : Ls) (w : World) (hm : Nm m) (hn : Nm n) (hl : IsL w m L) (hk : IsL w n K) (e0 : (m.trail = n.trail)) (e1 : (m.since = n.since)) (e2 : (m.pairs = n.pairs)) (e3 : ¬ (m.way = n.way)) :
    Calls Tryz.prog 25 #[.agg (mcells m L), .agg (mcells n K)] w fun e w' => e = .returned (.bool false) ∧ Chg (fun _ => False) w w' := by
  have b0 : Blk ((w.alloc (.cells (mcells m L) 36)).alloc (.cells (mcells n K) 36)) w.heap.size 36 (mcells m L) := (Blk.new w 36 (mcells m L)).alloc _
  have b1 : Blk ((w.alloc (.cells (mcells m L) 36)).alloc (.cells (mcells n K) 36)) (w.heap.size + 1) 36 (mcells n K) := by
    have := Blk.new (w.alloc (.cells (mcells m L) 36)) 36 (mcells n K)
    simpa using this
  have fm := IsM.mf b0 hm.hd
  have fn := IsM.mf b1 hn.hd
  have ch : Chg (fun _ => False) w ((w.alloc (.cells (mcells m L) 36)).alloc (.cells (mcells n K) 36)) := ((Chg.refl _ w).alloc _).alloc _
  have lm := hl.chg ch (LOff.no _)
  have ln := hk.chg ch (LOff.no _)
  obtain ⟨A0, c0, x0, r0⟩ := lm.t
  obtain ⟨B0, d0, y0, s0⟩ := ln.t
  have ua0 := fm.t.trans (congrArg some x0)
  have va0 := fn.t.trans (congrArg some y0)
  have E0 := Lib.hid (same_list (fun k => equal_dig A0 B0 c0 d0 m.trail n.trail (((w.alloc (.cells (mcells m L) 36)).alloc (.cells (mcells n K) 36)).drewN k) (r0.drewN k) (s0.drewN k) hm.nt hn.nt hm.trail hn.trail) true (decide_eq_true e0) ((w.alloc (.cells (mcells m L) 36)).alloc (.cells (mcells n K) 36)) (drew_zero _))
  obtain ⟨A1, c1, x1, r1⟩ := lm.s
  obtain ⟨B1, d1, y1, s1⟩ := ln.s
  have ua1 := fm.s.trans (congrArg some x1)
  have va1 := fn.s.trans (congrArg some y1)
  have E1 := Lib.hid (same_list (fun k => equal_dig A1 B1 c1 d1 m.since n.since (((w.alloc (.cells (mcells m L) 36)).alloc (.cells (mcells n K) 36)).drewN k) (r1.drewN k) (s1.drewN k) hm.ns hn.ns hm.since hn.since) true (decide_eq_true e1))
  obtain ⟨A2, c2, x2, r2⟩ := lm.p
  obtain ⟨B2, d2, y2, s2⟩ := ln.p
  have ua2 := fm.p.trans (congrArg some x2)
  have va2 := fn.p.trans (congrArg some y2)
  have E2 := Lib.hid (same_list (fun k => equal_pair A2 B2 c2 d2 m.pairs n.pairs (((w.alloc (.cells (mcells m L) 36)).alloc (.cells (mcells n K) 36)).drewN k) (r2.drewN k) (s2.drewN k) hm.np hn.np) true (decide_eq_true e2))
  obtain ⟨A3, c3, x3, r3⟩ := lm.y
  obtain ⟨B3, d3, y3, s3⟩ := ln.y
  have ua3 := fm.y.trans (congrArg some x3)
  have va3 := fn.y.trans (congrArg some y3)
  have E3 := Lib.hid (same_list (fun k => equal_int A3 B3 c3 d3 m.way n.way (((w.alloc (.cells (mcells m L) 36)).alloc (.cells (mcells n K) 36)).drewN k) (r3.drewN k) (s3.drewN k) hm.ny hn.ny) false (decide_eq_false e3))
  have Ch := Lib.hid ch
  clear ch b0 b1 fm fn lm ln hm hn hl hk r0 s0 x0 y0 r1 s1 x1 y1 r2 s2 x2 y2 r3 s3 x3 y3 e0 e1 e2 e3
  go_enter Tryz.func25, Tryz.ntmps25
  go_wp2_with fail
  refine (E0.out).mono ?_
  rintro e w0 ⟨rfl, n0, rfl⟩
  generalize hWW : ((w.alloc (.cells (mcells m L) 36)).alloc (.cells (mcells n K) 36)) = W0 at *
  clear hWW ua0 va0
  go_wp2_with fail
  refine (E1.out _ ⟨_, rfl⟩).mono ?_
  rintro e w1 ⟨rfl, n1, rfl⟩
  clear ua1 va1
  go_wp2_with fail
  refine (E2.out _ ⟨_, rfl⟩).mono ?_
  rintro e w2 ⟨rfl, n2, rfl⟩
  clear ua2 va2
  go_wp2_with fail
  refine (E3.out _ ⟨_, rfl⟩).mono ?_
  rintro e w3 ⟨rfl, n3, rfl⟩
  clear ua3 va3
  go_wp2_with fail
  go_ret
  exact ⟨rfl, (Ch.out).drewN _⟩

theorem msame_calls (m n : M) (L K : Ls) (w : World) (hm : Nm m) (hn : Nm n) (hl : IsL w m L) (hk : IsL w n K) :
    Calls Tryz.prog 25 #[.agg (mcells m L), .agg (mcells n K)] w fun e w' => e = .returned (.bool (decide (m = n))) ∧ Chg (fun _ => False) w w' := by
  by_cases e0 : m.trail = n.trail
  case neg => exact (same_0 m n L K w hm hn hl hk e0).mono fun e w' ⟨h1, h2⟩ => ⟨h1.trans (same_no (fun h => e0 (by rw [h]))), h2⟩
  by_cases e1 : m.since = n.since
  case neg => exact (same_1 m n L K w hm hn hl hk e0 e1).mono fun e w' ⟨h1, h2⟩ => ⟨h1.trans (same_no (fun h => e1 (by rw [h]))), h2⟩
  by_cases e2 : m.pairs = n.pairs
  case neg => exact (same_2 m n L K w hm hn hl hk e0 e1 e2).mono fun e w' ⟨h1, h2⟩ => ⟨h1.trans (same_no (fun h => e2 (by rw [h]))), h2⟩
  by_cases e3 : m.way = n.way
  case neg => exact (same_3 m n L K w hm hn hl hk e0 e1 e2 e3).mono fun e w' ⟨h1, h2⟩ => ⟨h1.trans (same_no (fun h => e3 (by rw [h]))), h2⟩
  refine (same_rest m n L K w hm hn hl hk e0 e1 e2 e3).mono fun e w' ⟨h1, h2⟩ => ⟨h1.trans (congrArg (fun b => Ending.returned (.bool b)) (decide_eq_decide.2 ⟨fun h => ?_, fun h => ?_⟩)), h2⟩
  · obtain ⟨a, b, c, d, ⟨p, q⟩, f, g, i, j⟩ := h
    obtain ⟨a1, a2, a3, a4⟩ := a
    obtain ⟨b1, b2, b3, b4, b5, b6⟩ := b
    cases m
    cases n
    simp only at *
    subst e0 e1 e2 e3 a1 a2 a3 a4 b1 b2 b3 b4 b5 b6 c d p q f g i j
    rfl
  · subst h
    exact ⟨⟨rfl, rfl, rfl, rfl⟩, ⟨rfl, rfl, rfl, rfl, rfl, rfl⟩, rfl, rfl, ⟨rfl, rfl⟩, rfl, rfl, rfl, rfl⟩
end Go.Proofs.YthkfcfkkamffpaaGreat
