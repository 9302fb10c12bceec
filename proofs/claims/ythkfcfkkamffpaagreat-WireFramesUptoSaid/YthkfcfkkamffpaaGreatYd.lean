/-
  Layer 27: messages compared. Printed by gen_yc.py.
-/
import Derived.Test.YthkfcfkkamffpaaGreatYc
import Derived.Deep.Cut
import Derived.Deep.CutBlock
namespace Go.Proofs.YthkfcfkkamffpaaGreat
open Go.RowKit
set_option linter.unusedVariables false
set_option linter.unusedSimpArgs false
open Wm (M)
attribute [local go_sem ↓] ld_dig st_dig ld_head st_head ld_entry st_entry

theorem guard_head : Tryz.prog.eqGuardType Tryz.prog.depth 29 = false := by kernel_rfl
theorem guard_entry : Tryz.prog.eqGuardType Tryz.prog.depth 31 = false := by kernel_rfl
theorem cut_no {p : Prop} [Decidable p] (h : ¬ p) : (Value.bool false) = .bool (decide p) := by rw [decide_eq_false h]
theorem same_no {p : Prop} [Decidable p] (h : ¬ p) : Ending.returned (.bool false) = .returned (.bool (decide p)) := by rw [decide_eq_false h]
theorem same_yes {p : Prop} [Decidable p] (h : p) : Ending.returned (.bool true) = .returned (.bool (decide p)) := by rw [decide_eq_true h]
theorem cut_yes {p : Prop} [Decidable p] (h : p) : (Value.bool true) = .bool (decide p) := by rw [decide_eq_true h]

set_option maxHeartbeats 8000000 in
set_option maxRecDepth 100000 in
theorem same_rest (m n : M) (L K : Ls) (w : World) (hm : Nm m) (hn : Nm n) (hl : IsL w m L) (hk : IsL w n K) (e0 : (m.trail = n.trail)) (e1 : (m.since = n.since)) (e2 : (m.pairs = n.pairs)) (e3 : (m.way = n.way)) :
    Calls Tryz.prog 25 #[.agg (mcells m L), .agg (mcells n K)] w fun e w' => e = .returned (.bool (decide (((m.key = n.key) ∧ (m.to = n.to) ∧ (m.val = n.val) ∧ (m.bytes = n.bytes)) ∧ ((m.kind = n.kind) ∧ (m.id = n.id) ∧ (m.code = n.code) ∧ (m.limit = n.limit) ∧ (m.frm = n.frm) ∧ (m.size = n.size)) ∧ m.found = n.found ∧ m.more = n.more ∧ (m.hsize = n.hsize ∧ m.hlog = n.hlog) ∧ (m.ever = n.ever ∧ m.esum = n.esum ∧ m.ecnt = n.ecnt ∧ m.enote = n.enote)))) ∧ Chg (fun _ => False) w w' := by
  have b0 : Blk ((w.alloc (.cells (mcells m L) 36)).alloc (.cells (mcells n K) 36)) w.heap.size 36 (mcells m L) := (Blk.new w 36 (mcells m L)).alloc _
  have b1 : Blk ((w.alloc (.cells (mcells m L) 36)).alloc (.cells (mcells n K) 36)) (w.heap.size + 1) 36 (mcells n K) := by
    have := Blk.new (w.alloc (.cells (mcells m L) 36)) 36 (mcells n K)
    simpa using this
  have fm := IsM.mf b0 hm.hd
  have fn := IsM.mf b1 hn.hd
  have ch : Chg (fun _ => False) w ((w.alloc (.cells (mcells m L) 36)).alloc (.cells (mcells n K) 36)) := ((Chg.refl _ w).alloc _).alloc _
  have lm := hl.chg ch (LOff.no _)
  have ln := hk.chg ch (LOff.no _)
  obtain ⟨A0, c0, x0, r0⟩ := lm.t
  obtain ⟨B0, d0, y0, s0⟩ := ln.t
  have ua0 := fm.t.trans (congrArg some x0)
  have va0 := fn.t.trans (congrArg some y0)
  have E0 := Lib.hid (same_list (fun k => equal_dig A0 B0 c0 d0 m.trail n.trail (((w.alloc (.cells (mcells m L) 36)).alloc (.cells (mcells n K) 36)).drewN k) (r0.drewN k) (s0.drewN k) hm.nt hn.nt hm.trail hn.trail) true (decide_eq_true e0) ((w.alloc (.cells (mcells m L) 36)).alloc (.cells (mcells n K) 36)) (drew_zero _))
  obtain ⟨A1, c1, x1, r1⟩ := lm.s
  obtain ⟨B1, d1, y1, s1⟩ := ln.s
  have ua1 := fm.s.trans (congrArg some x1)
  have va1 := fn.s.trans (congrArg some y1)
  have E1 := Lib.hid (same_list (fun k => equal_dig A1 B1 c1 d1 m.since n.since (((w.alloc (.cells (mcells m L) 36)).alloc (.cells (mcells n K) 36)).drewN k) (r1.drewN k) (s1.drewN k) hm.ns hn.ns hm.since hn.since) true (decide_eq_true e1))
  obtain ⟨A2, c2, x2, r2⟩ := lm.p
  obtain ⟨B2, d2, y2, s2⟩ := ln.p
  have ua2 := fm.p.trans (congrArg some x2)
  have va2 := fn.p.trans (congrArg some y2)
  have E2 := Lib.hid (same_list (fun k => equal_pair A2 B2 c2 d2 m.pairs n.pairs (((w.alloc (.cells (mcells m L) 36)).alloc (.cells (mcells n K) 36)).drewN k) (r2.drewN k) (s2.drewN k) hm.np hn.np) true (decide_eq_true e2))
  obtain ⟨A3, c3, x3, r3⟩ := lm.y
  obtain ⟨B3, d3, y3, s3⟩ := ln.y
  have ua3 := fm.y.trans (congrArg some x3)
  have va3 := fn.y.trans (congrArg some y3)
  have E3 := Lib.hid (same_list (fun k => equal_int A3 B3 c3 d3 m.way n.way (((w.alloc (.cells (mcells m L) 36)).alloc (.cells (mcells n K) 36)).drewN k) (r3.drewN k) (s3.drewN k) hm.ny hn.ny) true (decide_eq_true e3))
  have Ch := Lib.hid ch
  have B0 := Lib.hid b0
  have B1 := Lib.hid b1
  have Hdm := Lib.hid hm.hd
  have Hdn := Lib.hid hn.hd
  clear ch b0 b1 fm fn lm ln hm hn hl hk r0 r1 r2 r3 s0 s1 s2 s3 x0 x1 x2 x3 y0 y1 y2 y3 e0 e1 e2 e3
  go_enter Tryz.func25, Tryz.ntmps25
  go_wp2_with fail
  refine (E0.out).mono ?_
  rintro e w0 ⟨rfl, n0, rfl⟩
  generalize hWW : ((w.alloc (.cells (mcells m L) 36)).alloc (.cells (mcells n K) 36)) = W0 at *
  clear hWW ua0 va0
  go_wp2_with fail
  refine (E1.out _ ⟨_, rfl⟩).mono ?_
  rintro e w1 ⟨rfl, n1, rfl⟩
  clear ua1 va1
  go_wp2_with fail
  refine (E2.out _ ⟨_, rfl⟩).mono ?_
  rintro e w2 ⟨rfl, n2, rfl⟩
  clear ua2 va2
  go_wp2_with fail
  refine (E3.out _ ⟨_, rfl⟩).mono ?_
  rintro e w3 ⟨rfl, n3, rfl⟩
  clear ua3 va3
  go_upto_region 3 with fail
  have bm : IsM (W0.drewN n3) w.heap.size m L := IsM.drewN B0.out n3
  have bn : IsM (W0.drewN n3) (w.heap.size + 1) n K := IsM.drewN B1.out n3
  have Ch2 := Lib.hid ((Ch.out).drewN n3)
  clear B0 B1 Ch E0 E1 E2 E3
  generalize W0.drewN n3 = W at *
  have FM := Lib.hid (bm.mf Hdm.out)
  have FN := Lib.hid (bn.mf Hdn.out)
  clear bm bn
  go_cut [5] from 37 to 62 (fun c wx => c = .bool (decide ((m.key = n.key) ∧ (m.to = n.to) ∧ (m.val = n.val) ∧ (m.bytes = n.bytes))) ∧ wx = W)
  case first =>
    have ua4 := (FM.out).key
    have va4 := (FN.out).key
    have ua5 := (FM.out).to
    have va5 := (FN.out).to
    have ua6 := (FM.out).val
    have va6 := (FN.out).val
    have ua7 := (FM.out).bytes
    have va7 := (FN.out).bytes
    by_cases h4 : (m.key = n.key)
    case neg =>
      have q4 : (m.key == n.key) = false := beq_eq_false_iff_ne.2 h4
      have H4 := Lib.hid h4
      clear h4
      go_wp2_with fail
      go_meet
      exact ⟨cut_no (fun h => H4.out (by simpa using h.1)), rfl⟩
    have q4 : (m.key == n.key) = true := beq_iff_eq.2 h4
    by_cases h5 : (m.to = n.to)
    case neg =>
      have q5 : (m.to == n.to) = false := beq_eq_false_iff_ne.2 h5
      have H4 := Lib.hid h4
      have H5 := Lib.hid h5
      clear h4 h5
      go_wp2_with fail
      go_meet
      exact ⟨cut_no (fun h => H5.out (by simpa using h.2.1)), rfl⟩
    have q5 : (m.to == n.to) = true := beq_iff_eq.2 h5
    by_cases h6 : (m.val = n.val)
    case neg =>
      have q6 : (m.val == n.val) = false := beq_eq_false_iff_ne.2 h6
      have H4 := Lib.hid h4
      have H5 := Lib.hid h5
      have H6 := Lib.hid h6
      clear h4 h5 h6
      go_wp2_with fail
      go_meet
      exact ⟨cut_no (fun h => H6.out (by simpa using h.2.2.1)), rfl⟩
    have q6 : (m.val == n.val) = true := beq_iff_eq.2 h6
    by_cases h7 : (m.bytes = n.bytes)
    case neg =>
      have q7 : (m.bytes == n.bytes) = false := beq_eq_false_iff_ne.2 h7
      have H4 := Lib.hid h4
      have H5 := Lib.hid h5
      have H6 := Lib.hid h6
      have H7 := Lib.hid h7
      clear h4 h5 h6 h7
      go_wp2_with fail
      go_meet
      exact ⟨cut_no (fun h => H7.out (by simpa using h.2.2.2)), rfl⟩
    have q7 : (m.bytes == n.bytes) = true := beq_iff_eq.2 h7
    have H4 := Lib.hid h4
    have H5 := Lib.hid h5
    have H6 := Lib.hid h6
    have H7 := Lib.hid h7
    clear h4 h5 h6 h7
    go_wp2_with fail
    go_meet
    exact ⟨cut_yes ⟨H4.out, H5.out, H6.out, H7.out⟩, rfl⟩
  case rest =>
    obtain ⟨rfl, hw⟩ := hcut
    have hw2 := hw.symm
    clear hw
    subst hw2
    go_upto_region 4 with fail
    go_cut [6] from 63 to 102 (fun c wx => c = .bool (decide ((m.kind = n.kind) ∧ (m.id = n.id) ∧ (m.code = n.code) ∧ (m.limit = n.limit) ∧ (m.frm = n.frm) ∧ (m.size = n.size))) ∧ wx = W)
    case first =>
      have ua8 := (FM.out).kind
      have va8 := (FN.out).kind
      have ua9 := (FM.out).id
      have va9 := (FN.out).id
      have ua10 := (FM.out).code
      have va10 := (FN.out).code
      have ua11 := (FM.out).limit
      have va11 := (FN.out).limit
      have ua12 := (FM.out).frm
      have va12 := (FN.out).frm
      have ua13 := (FM.out).size
      have va13 := (FN.out).size
      by_cases h8 : (m.kind = n.kind)
      case neg =>
        have q8 : ((m.kind : Int) == (n.kind : Int)) = false := by rw [natB]; exact decide_eq_false h8
        have H8 := Lib.hid h8
        clear h8
        go_wp2_with fail
        go_meet
        exact ⟨cut_no (fun h => H8.out (by simpa using h.1)), rfl⟩
      have q8 : ((m.kind : Int) == (n.kind : Int)) = true := by rw [natB]; exact decide_eq_true h8
      by_cases h9 : (m.id = n.id)
      case neg =>
        have q9 : ((m.id : Int) == (n.id : Int)) = false := by rw [natB]; exact decide_eq_false h9
        have H8 := Lib.hid h8
        have H9 := Lib.hid h9
        clear h8 h9
        go_wp2_with fail
        go_meet
        exact ⟨cut_no (fun h => H9.out (by simpa using h.2.1)), rfl⟩
      have q9 : ((m.id : Int) == (n.id : Int)) = true := by rw [natB]; exact decide_eq_true h9
      by_cases h10 : (m.code = n.code)
      case neg =>
        have q10 : (m.code == n.code) = false := beq_eq_false_iff_ne.2 h10
        have H8 := Lib.hid h8
        have H9 := Lib.hid h9
        have H10 := Lib.hid h10
        clear h8 h9 h10
        go_wp2_with fail
        go_meet
        exact ⟨cut_no (fun h => H10.out (by simpa using h.2.2.1)), rfl⟩
      have q10 : (m.code == n.code) = true := beq_iff_eq.2 h10
      by_cases h11 : (m.limit = n.limit)
      case neg =>
        have q11 : (m.limit == n.limit) = false := beq_eq_false_iff_ne.2 h11
        have H8 := Lib.hid h8
        have H9 := Lib.hid h9
        have H10 := Lib.hid h10
        have H11 := Lib.hid h11
        clear h8 h9 h10 h11
        go_wp2_with fail
        go_meet
        exact ⟨cut_no (fun h => H11.out (by simpa using h.2.2.2.1)), rfl⟩
      have q11 : (m.limit == n.limit) = true := beq_iff_eq.2 h11
      by_cases h12 : (m.frm = n.frm)
      case neg =>
        have q12 : ((m.frm : Int) == (n.frm : Int)) = false := by rw [natB]; exact decide_eq_false h12
        have H8 := Lib.hid h8
        have H9 := Lib.hid h9
        have H10 := Lib.hid h10
        have H11 := Lib.hid h11
        have H12 := Lib.hid h12
        clear h8 h9 h10 h11 h12
        go_wp2_with fail
        go_meet
        exact ⟨cut_no (fun h => H12.out (by simpa using h.2.2.2.2.1)), rfl⟩
      have q12 : ((m.frm : Int) == (n.frm : Int)) = true := by rw [natB]; exact decide_eq_true h12
      by_cases h13 : (m.size = n.size)
      case neg =>
        have q13 : ((m.size : Int) == (n.size : Int)) = false := by rw [natB]; exact decide_eq_false h13
        have H8 := Lib.hid h8
        have H9 := Lib.hid h9
        have H10 := Lib.hid h10
        have H11 := Lib.hid h11
        have H12 := Lib.hid h12
        have H13 := Lib.hid h13
        clear h8 h9 h10 h11 h12 h13
        go_wp2_with fail
        go_meet
        exact ⟨cut_no (fun h => H13.out (by simpa using h.2.2.2.2.2)), rfl⟩
      have q13 : ((m.size : Int) == (n.size : Int)) = true := by rw [natB]; exact decide_eq_true h13
      have H8 := Lib.hid h8
      have H9 := Lib.hid h9
      have H10 := Lib.hid h10
      have H11 := Lib.hid h11
      have H12 := Lib.hid h12
      have H13 := Lib.hid h13
      clear h8 h9 h10 h11 h12 h13
      go_wp2_with fail
      go_meet
      exact ⟨cut_yes ⟨H8.out, H9.out, H10.out, H11.out, H12.out, H13.out⟩, rfl⟩
    case rest =>
      obtain ⟨rfl, hw⟩ := hcut
      have hw2 := hw.symm
      clear hw
      subst hw2
      generalize hp1 : decide ((m.key = n.key) ∧ (m.to = n.to) ∧ (m.val = n.val) ∧ (m.bytes = n.bytes)) = p1
      generalize hp2 : decide ((m.kind = n.kind) ∧ (m.id = n.id) ∧ (m.code = n.code) ∧ (m.limit = n.limit) ∧ (m.frm = n.frm) ∧ (m.size = n.size)) = p2
      have Hp1 := Lib.hid hp1
      have Hp2 := Lib.hid hp2
      clear hp1 hp2
      cases p1
      · go_wp2_with fail
        go_ret
        exact ⟨same_no (fun h => of_decide_eq_false Hp1.out h.1), Ch2.out⟩
      cases p2
      · go_wp2_with fail
        go_ret
        exact ⟨same_no (fun h => of_decide_eq_false Hp2.out h.2.1), Ch2.out⟩
      have ua14 := (FM.out).found
      have va14 := (FN.out).found
      by_cases h14 : m.found = n.found
      case neg =>
        have q14 : (m.found == n.found) = false := beq_eq_false_iff_ne.2 h14
        have H14 := Lib.hid h14
        clear h14
        go_wp2_with fail
        go_ret
        exact ⟨same_no (fun h => H14.out h.2.2.1), Ch2.out⟩
      have q14 : (m.found == n.found) = true := beq_iff_eq.2 h14
      have H14 := Lib.hid h14
      clear h14
      have ua15 := (FM.out).more
      have va15 := (FN.out).more
      by_cases h15 : m.more = n.more
      case neg =>
        have q15 : (m.more == n.more) = false := beq_eq_false_iff_ne.2 h15
        have H15 := Lib.hid h15
        clear h15
        go_wp2_with fail
        go_ret
        exact ⟨same_no (fun h => H15.out h.2.2.2.1), Ch2.out⟩
      have q15 : (m.more == n.more) = true := beq_iff_eq.2 h15
      have H15 := Lib.hid h15
      clear h15
      have ua16 := ld_hd W w.heap.size m L Hdm.out FM.out
      have va16 := ld_hd W (w.heap.size + 1) n K Hdn.out FN.out
      have q16 := fun w => eql_head m.hsize n.hsize m.hlog n.hlog (Hdm.out).h (Hdn.out).h w
      have g16 := guard_head
      by_cases h16 : (m.hsize = n.hsize ∧ m.hlog = n.hlog)
      case neg =>
        simp only [decide_eq_false h16, hc] at q16
        have H16 := Lib.hid h16
        clear h16
        go_wp2_with fail
        go_ret
        exact ⟨same_no (fun h => H16.out h.2.2.2.2.1), Ch2.out⟩
      simp only [decide_eq_true h16, hc] at q16
      have H16 := Lib.hid h16
      clear h16
      have ua17 := ld_en W w.heap.size m L Hdm.out FM.out
      have va17 := ld_en W (w.heap.size + 1) n K Hdn.out FN.out
      have q17 := fun w => eql_entry m.ever n.ever m.esum n.esum m.ecnt n.ecnt m.enote n.enote (Hdm.out).e (Hdn.out).e w
      have g17 := guard_entry
      by_cases h17 : (m.ever = n.ever ∧ m.esum = n.esum ∧ m.ecnt = n.ecnt ∧ m.enote = n.enote)
      case neg =>
        simp only [decide_eq_false h17] at q17
        have H17 := Lib.hid h17
        clear h17
        go_wp2_with fail
        go_ret
        exact ⟨same_no (fun h => H17.out h.2.2.2.2.2), Ch2.out⟩
      simp only [decide_eq_true h17] at q17
      have H17 := Lib.hid h17
      clear h17
      go_wp2_with fail
      go_ret
      exact ⟨same_yes ⟨of_decide_eq_true Hp1.out, of_decide_eq_true Hp2.out, H14.out, H15.out, H16.out, H17.out⟩, Ch2.out⟩
end Go.Proofs.YthkfcfkkamffpaaGreat
