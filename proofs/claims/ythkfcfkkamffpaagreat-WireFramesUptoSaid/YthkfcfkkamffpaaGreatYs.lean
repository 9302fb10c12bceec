/-
  Layer 27: the document's Same. Printed by gen_ys.py.
-/
import Derived.Test.YthkfcfkkamffpaaGreatYe
import Derived.BigRegion
import Derived.Deep.QuietTactic
import Derived.BigQuiet
namespace Go.Proofs.YthkfcfkkamffpaaGreat
open Go.RowKit
set_option linter.unusedVariables false
set_option linter.unusedSimpArgs false
open Wm (M)
attribute [local go_sem ↓] ld_dig st_dig ld_head st_head ld_entry st_entry
theorem neq_hd (a b : Nat) (d e : List UInt8) (hd : d.length = 32) (he : e.length = 32) (w : World) : (binOp .neq 29 (.agg (hc a d)) (.agg (hc b e))).run Tryz.prog w = .ok (.bool (!decide (a = b ∧ d = e))) w := by
  have key : (Op.equalIn (9999 + 1) 29 (.agg (hc a d)) (.agg (hc b e))).run Tryz.prog w = .ok (decide (a = b) && (decide (d = e) && true)) w := by
    rw [run_equalIn_agg w 9999 _ _ _ (by kernel_rfl) (by kernel_rfl), fields_of Tryz.underlying29]
    refine eqf_step w (by decide) (part_one w _ _ _ _ (.int .u64 a) Tryz.underlying25 rfl rfl) (part_one w _ _ _ _ (.int .u64 b) Tryz.underlying25 rfl rfl) (by rw [run_equalIn_int w _ _ _ _ _ _ Tryz.underlying25, natB]) ?_
    refine eqf_step w (by decide) (part_agg w _ _ 32 _ _ 1 under_digest rfl size_dig (hc_dig a d hd)) (part_agg w _ _ 32 _ _ 1 under_digest rfl size_dig (hc_dig b e he)) (digB 9997 d e hd he w) ?_
    exact eqf_nil w
  rw [run_neq_struct, key]
  simp
theorem neq_en (a b : Nat) (d e : List UInt8) (c g : Nat) (n o : List UInt8) (hd : d.length = 32) (he : e.length = 32) (w : World) : (binOp .neq 31 (.agg (ecells a d c n).toArray) (.agg (ecells b e g o).toArray)).run Tryz.prog w = .ok (.bool (!decide (a = b ∧ d = e ∧ c = g ∧ n = o))) w := by
  obtain ⟨a1, a2⟩ := ec_at a d c n hd
  obtain ⟨b1, b2⟩ := ec_at b e g o he
  have key : (Op.equalIn (9999 + 1) 31 (.agg (ecells a d c n).toArray) (.agg (ecells b e g o).toArray)).run Tryz.prog w = .ok (decide (a = b) && (decide (d = e) && (decide (c = g) && (decide (n = o) && true)))) w := by
    rw [run_equalIn_agg w 9999 _ _ _ (by kernel_rfl) (by kernel_rfl), fields_of Tryz.underlying31]
    refine eqf_step w (by decide) (part_one w _ _ _ _ (.int .u64 a) Tryz.underlying25 rfl rfl) (part_one w _ _ _ _ (.int .u64 b) Tryz.underlying25 rfl rfl) (by rw [run_equalIn_int w _ _ _ _ _ _ Tryz.underlying25, natB]) ?_
    refine eqf_step w (by decide) (part_agg w _ _ 32 _ _ 1 under_digest rfl size_dig (ec_dig a d c n hd)) (part_agg w _ _ 32 _ _ 1 under_digest rfl size_dig (ec_dig b e g o he)) (digB 9997 d e hd he w) ?_
    refine eqf_step w (by decide) (part_one w _ _ _ _ (.int .u64 c) Tryz.underlying25 rfl a1) (part_one w _ _ _ _ (.int .u64 g) Tryz.underlying25 rfl b1) (by rw [run_equalIn_int w _ _ _ _ _ _ Tryz.underlying25, natB]) ?_
    refine eqf_step w (by decide) (part_one w _ _ _ _ (S n) Tryz.underlying9 rfl a2) (part_one w _ _ _ _ (S o) Tryz.underlying9 rfl b2) (by rw [run_equalIn_string w _ _ _ _ Tryz.underlying9, strB]) ?_
    exact eqf_nil w
  rw [run_neq_struct, key]
  simp

set_option maxHeartbeats 16000000 in
set_option maxRecDepth 100000 in
theorem rsame_yes (m : M) (L K : Ls) (w : World) (hm : Nm m) (hl : IsL w m L) (hk : IsL w m K) :
    Calls Tryz.prog 23 #[.agg (mcells m L), .agg (mcells m K)] w fun e w' => e = .returned (.bool true) ∧ Chg (fun _ => False) w w' := by
  have b0 : Blk ((w.alloc (.cells (mcells m L) 36)).alloc (.cells (mcells m K) 36)) w.heap.size 36 (mcells m L) := (Blk.new w 36 (mcells m L)).alloc _
  have b1 : Blk ((w.alloc (.cells (mcells m L) 36)).alloc (.cells (mcells m K) 36)) (w.heap.size + 1) 36 (mcells m K) := by
    have := Blk.new (w.alloc (.cells (mcells m L) 36)) 36 (mcells m K)
    simpa using this
  have FM := Lib.hid (IsM.mf b0 hm.hd)
  have FN := Lib.hid (IsM.mf b1 hm.hd)
  have ch : Chg (fun _ => False) w ((w.alloc (.cells (mcells m L) 36)).alloc (.cells (mcells m K) 36)) := ((Chg.refl _ w).alloc _).alloc _
  have lm := hl.chg ch (LOff.no _)
  have ln := hk.chg ch (LOff.no _)
  have Ch := Lib.hid ch
  have Hm := Lib.hid hm
  obtain ⟨A0, c0, x0, r0⟩ := lm.t
  obtain ⟨B0, d0, y0, s0⟩ := ln.t
  obtain ⟨A1, c1, x1, r1⟩ := lm.s
  obtain ⟨B1, d1, y1, s1⟩ := ln.s
  obtain ⟨A2, c2, x2, r2⟩ := lm.p
  obtain ⟨B2, d2, y2, s2⟩ := ln.p
  obtain ⟨A3, c3, x3, r3⟩ := lm.y
  obtain ⟨B3, d3, y3, s3⟩ := ln.y
  have R0 := Lib.hid r0
  have S0 := Lib.hid s0
  have R1 := Lib.hid r1
  have S1 := Lib.hid s1
  have R2 := Lib.hid r2
  have S2 := Lib.hid s2
  have R3 := Lib.hid r3
  have S3 := Lib.hid s3
  have ut := Lib.hid (FM.out.t.trans (congrArg some x0))
  have vt := Lib.hid (FN.out.t.trans (congrArg some y0))
  have us := Lib.hid (FM.out.s.trans (congrArg some x1))
  have vs := Lib.hid (FN.out.s.trans (congrArg some y1))
  have up := Lib.hid (FM.out.p.trans (congrArg some x2))
  have vp := Lib.hid (FN.out.p.trans (congrArg some y2))
  have uy := Lib.hid (FM.out.y.trans (congrArg some x3))
  have vy := Lib.hid (FN.out.y.trans (congrArg some y3))
  clear ch b0 b1 hl hk lm ln r0 r1 r2 r3 s0 s1 s2 s3 x0 x1 x2 x3 y0 y1 y2 y3
  have nt := hm.nt
  have ns := hm.ns
  have np := hm.np
  have ny := hm.ny
  clear hm
  go_enter Tryz.func23, Tryz.ntmps23
  go_upto_region 1 with fail
  generalize hWW : ((w.alloc (.cells (mcells m L) 36)).alloc (.cells (mcells m K) 36)) = W at *
  clear hWW
  have ukind := FM.out.kind
  have vkind := FN.out.kind
  have uid := FM.out.id
  have vid := FN.out.id
  have ucode := FM.out.code
  have vcode := FN.out.code
  have ukey := FM.out.key
  have vkey := FN.out.key
  have uto := FM.out.to
  have vto := FN.out.to
  have uval := FM.out.val
  have vval := FN.out.val
  have ulimit := FM.out.limit
  have vlimit := FN.out.limit
  have ufrm := FM.out.frm
  have vfrm := FN.out.frm
  have usize := FM.out.size
  have vsize := FN.out.size
  have ufound := FM.out.found
  have vfound := FN.out.found
  have umore := FM.out.more
  have vmore := FN.out.more
  have ubytes := FM.out.bytes
  have vbytes := FN.out.bytes
  have uh := ld_hd W w.heap.size m L Hm.out.hd FM.out
  have vh := ld_hd W (w.heap.size + 1) m K Hm.out.hd FN.out
  have qh := fun w => neq_hd m.hsize m.hsize m.hlog m.hlog Hm.out.hd.h Hm.out.hd.h w
  have gh := guard_head
  simp only [decide_eq_true (show m.hsize = m.hsize ∧ m.hlog = m.hlog from ⟨rfl, rfl⟩), hc, Bool.not_true] at qh
  have ue := ld_en W w.heap.size m L Hm.out.hd FM.out
  have ve := ld_en W (w.heap.size + 1) m K Hm.out.hd FN.out
  have qe := fun w => neq_en m.ever m.ever m.esum m.esum m.ecnt m.ecnt m.enote m.enote Hm.out.hd.e Hm.out.hd.e w
  have ge := guard_entry
  simp only [decide_eq_true (show m.ever = m.ever ∧ m.esum = m.esum ∧ m.ecnt = m.ecnt ∧ m.enote = m.enote from ⟨rfl, rfl, rfl, rfl⟩), Bool.not_true] at qe
  go_upto_region 3 with fail
  clear ukind vkind uid vid ucode vcode ukey vkey uto vto uval vval ulimit vlimit ufrm vfrm usize vsize ufound vfound umore vmore ubytes vbytes uh vh qh gh ue ve qe ge
  have ut' := ut.out
  have vt' := vt.out
  have us' := us.out
  have vs' := vs.out
  have up' := up.out
  have vp' := vp.out
  have uy' := uy.out
  have vy' := vy.out
  go_upto_region 5 with fail
  clear ut' vt' us' vs' up' vp' uy' vy'
  go_wp2_with fail
  go_loopw [5] (fun iv wr => ∃ (k j : Nat), k ≤ m.trail.length ∧ iv = .int .i64 k ∧ wr = W.drewN j) (fun iv _ => m.trail.length - (intOf iv).toNat)
  case atStart => exact ⟨0, 0, by omega, rfl, rfl⟩
  case round =>
    obtain ⟨k0, j0, hk0, rfl, rfl⟩ := hrel
    have ut' := ut.out
    have vt' := vt.out
    by_cases hp : k0 < m.trail.length
    case pos =>
      obtain ⟨x, hx⟩ : ∃ x, m.trail[k0]? = some x := ⟨_, List.getElem?_eq_getElem hp⟩
      obtain ⟨b1, o1, rfl, hc1⟩ := RL.at_ (size := 32) (f := fun x => bys x) (fun x hm => by rw [bys_length]; exact Hm.out.trail x hm) R0.out hx
      obtain ⟨b2, o2, rfl, hc2⟩ := RL.at_ (size := 32) (f := fun x => bys x) (fun x hm => by rw [bys_length]; exact Hm.out.trail x hm) S0.out hx
      have hx32 := Hm.out.trail x (List.mem_of_getElem? hx)
      have hl1 := fun n => ld_mid (W.drewN n) b1 (o1 + k0 * 32) x hx32 hc1
      have hl2 := fun n => ld_mid (W.drewN n) b2 (o2 + k0 * 32) x hx32 hc2
      have hne := fun w => neq_dig x x hx32 hx32 w
      simp only [decide_eq_true (show x = x from rfl), Bool.not_true] at hne
      have hgp := guard_digest
      clear hx32 hx hc1 hc2
      go_wp2_with fail
      go_quiet (fail)
      go_wp2_with fail
      go_roundw
      case rel => exact ⟨k0 + 1, j0 + nq, by omega, by go_num, by first | rfl | rw [World.drewN_drewN]⟩
      case measure => simp [intOf]; omega
    obtain rfl : k0 = m.trail.length := by omega
    go_wp2_with fail
    go_loopw [6] (fun iv wr => ∃ (k j : Nat), k ≤ m.since.length ∧ iv = .int .i64 k ∧ wr = W.drewN j) (fun iv _ => m.since.length - (intOf iv).toNat)
    case atStart => exact ⟨0, j0, by omega, rfl, rfl⟩
    case round =>
      obtain ⟨k1, j1, hk1, rfl, rfl⟩ := hrel
      have us' := us.out
      have vs' := vs.out
      by_cases hp : k1 < m.since.length
      case pos =>
        obtain ⟨x, hx⟩ : ∃ x, m.since[k1]? = some x := ⟨_, List.getElem?_eq_getElem hp⟩
        obtain ⟨b1, o1, rfl, hc1⟩ := RL.at_ (size := 32) (f := fun x => bys x) (fun x hm => by rw [bys_length]; exact Hm.out.since x hm) R1.out hx
        obtain ⟨b2, o2, rfl, hc2⟩ := RL.at_ (size := 32) (f := fun x => bys x) (fun x hm => by rw [bys_length]; exact Hm.out.since x hm) S1.out hx
        have hx32 := Hm.out.since x (List.mem_of_getElem? hx)
        have hl1 := fun n => ld_mid (W.drewN n) b1 (o1 + k1 * 32) x hx32 hc1
        have hl2 := fun n => ld_mid (W.drewN n) b2 (o2 + k1 * 32) x hx32 hc2
        have hne := fun w => neq_dig x x hx32 hx32 w
        simp only [decide_eq_true (show x = x from rfl), Bool.not_true] at hne
        have hgp := guard_digest
        clear hx32 hx hc1 hc2
        go_wp2_with fail
        go_quiet (fail)
        go_wp2_with fail
        go_roundw
        case rel => exact ⟨k1 + 1, j1 + nq, by omega, by go_num, by first | rfl | rw [World.drewN_drewN]⟩
        case measure => simp [intOf]; omega
      obtain rfl : k1 = m.since.length := by omega
      go_wp2_with fail
      go_loopw [7] (fun iv wr => ∃ (k j : Nat), k ≤ m.pairs.length ∧ iv = .int .i64 k ∧ wr = W.drewN j) (fun iv _ => m.pairs.length - (intOf iv).toNat)
      case atStart => exact ⟨0, j1, by omega, rfl, rfl⟩
      case round =>
        obtain ⟨k2, j2, hk2, rfl, rfl⟩ := hrel
        have up' := up.out
        have vp' := vp.out
        by_cases hp : k2 < m.pairs.length
        case pos =>
          obtain ⟨x, hx⟩ : ∃ x, m.pairs[k2]? = some x := ⟨_, List.getElem?_eq_getElem hp⟩
          obtain ⟨b1, o1, rfl, hc1⟩ := RL.at_ (size := 2) (f := fun x => [S x.1, S x.2]) (fun x hm => rfl) R2.out hx
          obtain ⟨b2, o2, rfl, hc2⟩ := RL.at_ (size := 2) (f := fun x => [S x.1, S x.2]) (fun x hm => rfl) S2.out hx
          have d1 := hc1 0 _ rfl
          have d2 := hc2 0 _ rfl
          have d3 := hc1 1 _ rfl
          have d4 := hc2 1 _ rfl
          rw [Nat.add_zero] at d1 d2
          have hne := fun w => neq_pair x x w
          simp only [decide_eq_true (show x = x from rfl), Bool.not_true] at hne
          have hgp := guard_pair
          clear hx hc1 hc2
          go_wp2_with fail
          go_quiet (fail)
          go_wp2_with fail
          go_roundw
          case rel => exact ⟨k2 + 1, j2 + nq, by omega, by go_num, by first | rfl | rw [World.drewN_drewN]⟩
          case measure => simp [intOf]; omega
        obtain rfl : k2 = m.pairs.length := by omega
        go_wp2_with fail
        go_loopw [8] (fun iv wr => ∃ (k j : Nat), k ≤ m.way.length ∧ iv = .int .i64 k ∧ wr = W.drewN j) (fun iv _ => m.way.length - (intOf iv).toNat)
        case atStart => exact ⟨0, j2, by omega, rfl, rfl⟩
        case round =>
          obtain ⟨k3, j3, hk3, rfl, rfl⟩ := hrel
          have uy' := uy.out
          have vy' := vy.out
          by_cases hp : k3 < m.way.length
          case pos =>
            obtain ⟨x, hx⟩ : ∃ x, m.way[k3]? = some x := ⟨_, List.getElem?_eq_getElem hp⟩
            obtain ⟨b1, o1, rfl, hc1⟩ := RL.at_ (size := 1) (f := fun x => [.int .i64 x]) (fun x hm => rfl) R3.out hx
            obtain ⟨b2, o2, rfl, hc2⟩ := RL.at_ (size := 1) (f := fun x => [.int .i64 x]) (fun x hm => rfl) S3.out hx
            have d1 := hc1 0 _ rfl
            have d2 := hc2 0 _ rfl
            simp only [Nat.add_zero, Nat.mul_one] at d1 d2
            clear hx hc1 hc2
            go_wp2_with fail
            go_quiet (fail)
            go_wp2_with fail
            go_roundw
            case rel => exact ⟨k3 + 1, j3 + nq, by omega, by go_num, by first | rfl | rw [World.drewN_drewN]⟩
            case measure => simp [intOf]; omega
          obtain rfl : k3 = m.way.length := by omega
          go_wp2_with fail
          go_ret
          exact ⟨rfl, Ch.out.drewN _⟩
end Go.Proofs.YthkfcfkkamffpaaGreat
