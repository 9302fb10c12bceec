/-
  Layer 27: may.
-/
import Derived.Test.YthkfcfkkamffpaaGreatYe
namespace Go.Proofs.YthkfcfkkamffpaaGreat
open Go.RowKit
set_option linter.unusedVariables false
set_option linter.unusedSimpArgs false
open Wm (M)


set_option maxHeartbeats 1000000 in
set_option maxRecDepth 100000 in
theorem long_26 (m : M) (L : Ls) (w : World) (hd : Dg m) (hk : m.kind = 26) : Calls Tryz.prog 40 #[.agg (mcells m L)] w fun e w' => e = .returned (.bool (decide (1048576 < (m.bytes.length : Int)))) ∧ Chg (fun _ => False) w w' := by
  have fm := IsM.mf (Blk.new w 36 (mcells m L)) hd
  have ua := fm.kind
  have va := fm.bytes
  have q1 : ((m.kind : Int) == 26) = true := by rw [hk]; rfl
  clear hk
  clear fm hd
  go_enter Tryz.func40, Tryz.ntmps40
  go_wp2_with fail
  go_ret
  exact ⟨rfl, (Chg.refl _ w).alloc _⟩

set_option maxHeartbeats 1000000 in
set_option maxRecDepth 100000 in
theorem long_29 (m : M) (L : Ls) (w : World) (hd : Dg m) (hk : m.kind = 29) : Calls Tryz.prog 40 #[.agg (mcells m L)] w fun e w' => e = .returned (.bool (decide (1048576 < (m.bytes.length : Int)))) ∧ Chg (fun _ => False) w w' := by
  have fm := IsM.mf (Blk.new w 36 (mcells m L)) hd
  have ua := fm.kind
  have va := fm.bytes
  have q1 : ((m.kind : Int) == 26) = false := by rw [hk]; rfl
  have q2 : ((m.kind : Int) == 29) = true := by rw [hk]; rfl
  clear hk
  clear fm hd
  go_enter Tryz.func40, Tryz.ntmps40
  go_wp2_with fail
  go_ret
  exact ⟨rfl, (Chg.refl _ w).alloc _⟩

set_option maxHeartbeats 1000000 in
set_option maxRecDepth 100000 in
theorem long_no (m : M) (L : Ls) (w : World) (hd : Dg m) (hk : m.kind ≠ 26) (hk2 : m.kind ≠ 29) : Calls Tryz.prog 40 #[.agg (mcells m L)] w fun e w' => e = .returned (.bool false) ∧ Chg (fun _ => False) w w' := by
  have fm := IsM.mf (Blk.new w 36 (mcells m L)) hd
  have ua := fm.kind
  have va := fm.bytes
  have q1 : ((m.kind : Int) == 26) = false := beq_eq_false_iff_ne.2 (by omega)
  have q2 : ((m.kind : Int) == 29) = false := beq_eq_false_iff_ne.2 (by omega)
  clear hk hk2
  clear fm hd
  go_enter Tryz.func40, Tryz.ntmps40
  go_wp2_with fail
  go_ret
  exact ⟨rfl, (Chg.refl _ w).alloc _⟩

theorem tooLong_calls (m : M) (L : Ls) (w : World) (hd : Dg m) : Calls Tryz.prog 40 #[.agg (mcells m L)] w fun e w' => e = .returned (.bool (Wm.tooLong m)) ∧ Chg (fun _ => False) w w' := by
  have eb : decide (1048576 < (m.bytes.length : Int)) = decide (1048576 < m.bytes.length) := by rw [decide_eq_decide]; omega
  by_cases h1 : m.kind = 26
  · exact (long_26 m L w hd h1).mono fun e w' ⟨h2, h3⟩ => ⟨h2.trans (congrArg (fun b => Ending.returned (.bool b)) (by unfold Wm.tooLong; rw [h1, eb]; simp)), h3⟩
  by_cases h4 : m.kind = 29
  · exact (long_29 m L w hd h4).mono fun e w' ⟨h2, h3⟩ => ⟨h2.trans (congrArg (fun b => Ending.returned (.bool b)) (by unfold Wm.tooLong; rw [h4, eb]; simp)), h3⟩
  · exact (long_no m L w hd h1 h4).mono fun e w' ⟨h2, h3⟩ => ⟨h2.trans (congrArg (fun b => Ending.returned (.bool b)) (by unfold Wm.tooLong; simp [h1, h4])), h3⟩
end Go.Proofs.YthkfcfkkamffpaaGreat
namespace Go.Proofs.YthkfcfkkamffpaaGreat
open Go.RowKit
set_option linter.unusedVariables false
set_option linter.unusedSimpArgs false
open Wm (M)
theorem ld_msg (v : Value) : Instr.loadAt 36 v = ldAgg 36 v := rfl
theorem st_msg (v x : Value) : Instr.storeAt 36 v x = stAgg 36 v x := rfl
theorem info_msg : (Tryz.prog.info? 36).map (·.size) = some 84 := by kernel_rfl
theorem ldM {w : World} {g : Nat} {m : M} {L : Ls} (hd : Dg m) (h : IsM w g m L) : (ldAgg 36 (.pointer (some ⟨g, 0, none⟩))).run Tryz.prog w = .ok (.agg (mcells m L)) w :=
  ldAgg_of Tryz.underlying36 rfl (by rw [mc_len m L hd]; exact info_msg) (fun j v hv => by rw [Nat.zero_add, Blk.cell h]; exact hv)
/-- its lists are slices -/
structure Slc (L : Ls) : Prop where
  t : L.t.oneCell' = true
  s : L.s.oneCell' = true
  p : L.p.oneCell' = true
  y : L.y.oneCell' = true
theorem IsL.slc {w : World} {m : M} {L : Ls} (h : IsL w m L) : Slc L := by
  obtain ⟨⟨a, b, e1, _⟩, ⟨c, d, e2, _⟩, ⟨f, g, e3, _⟩, ⟨i, j, e4, _⟩⟩ := h
  exact ⟨by rw [e1]; rfl, by rw [e2]; rfl, by rw [e3]; rfl, by rw [e4]; rfl⟩
theorem slc_no : Slc nolist := ⟨rfl, rfl, rfl, rfl⟩
theorem mcells_one (m : M) (L : Ls) (h : Slc L) : (mcells m L).all (·.oneCell') = true := by
  have key : ∀ d : List UInt8, ∀ v ∈ bys d, v.oneCell' = true := fun d v hv => by
    have := one_bys d
    rw [Array.all_eq_true_iff_forall_mem] at this
    exact this v (by simpa using hv)
  rw [Array.all_eq_true_iff_forall_mem]
  intro v hv
  simp only [mcells, mc, tailC, List.mem_toArray, List.mem_cons, List.mem_append, List.not_mem_nil, or_false] at hv
  rcases hv with rfl | rfl | rfl | rfl | rfl | rfl | rfl | rfl | rfl | rfl | rfl | rfl | hv | rfl | hv | rfl | rfl | rfl | rfl | rfl | rfl | rfl
  all_goals first | rfl | exact key _ _ hv | exact h.t | exact h.s | exact h.p | exact h.y
theorem stM {w : World} {g : Nat} {cs : Array Value} {m : M} {L : Ls} (hb : Blk w g 36 cs) (hs : cs.size = 84) (hd : Dg m) (hL : Slc L) : (stAgg 36 (.pointer (some ⟨g, 0, none⟩)) (.agg (mcells m L))).run Tryz.prog w = .ok () (w.setRow g (mcells m L)) := by
  have := stAgg_of (P := Tryz.prog) (t := 36) (off := 0) (cs := mcells m L) hb (by rw [mc_len m L hd]; exact info_msg) (by rw [mc_len m L hd, hs]; omega) (mcells_one m L hL)
  rw [List.drop_eq_nil_of_le (by rw [mc_len m L hd]; simp [hs])] at this
  simpa using this
/-- the literal of a message with a kind and a number -/
theorem only_dg (k i : Nat) : Dg (Wm.only k i) := ⟨rfl, rfl⟩
end Go.Proofs.YthkfcfkkamffpaaGreat
namespace Go.Proofs.YthkfcfkkamffpaaGreat
open Go.RowKit
set_option linter.unusedVariables false
set_option linter.unusedSimpArgs false
open Wm (M)
set_option maxRecDepth 100000 in
theorem zero_msg : Tryz.zeroCells36 = mcells (Wm.only 0 0) nolist := by kernel_rfl
theorem only_cells (k i : Nat) : (Tryz.zeroCells36.setIfInBounds 0 (.int .u8 k)).setIfInBounds 1 (.int .u32 i) = mcells (Wm.only k i) nolist := by
  rw [zero_msg, set_kind, set_id]
  rfl
/-- what `only := api.Msg{Kind: .., Id: ..}` stores into its new place -/
theorem st_only (w1 : World) (k i : Nat) : (stAgg 36 (.pointer (some ⟨w1.heap.size, 0, none⟩)) (.agg ((Tryz.zeroCells36.setIfInBounds 0 (.int .u8 k)).setIfInBounds 1 (.int .u32 i)))).run Tryz.prog (w1.alloc (.cells Tryz.zeroCells36 36)) =
    .ok () ((w1.alloc (.cells Tryz.zeroCells36 36)).setRow w1.heap.size (mcells (Wm.only k i) nolist)) := by
  rw [only_cells]
  exact stM (Blk.new w1 36 Tryz.zeroCells36) (by rw [zero_msg]; exact mc_len _ _ (only_dg 0 0)) (only_dg k i) slc_no
end Go.Proofs.YthkfcfkkamffpaaGreat
namespace Go.Proofs.YthkfcfkkamffpaaGreat
open Go.RowKit
set_option linter.unusedVariables false
set_option linter.unusedSimpArgs false
open Wm (M)
attribute [local go_sem ↓] ld_msg st_msg st_part
set_option maxHeartbeats 1000000 in
set_option maxRecDepth 100000 in
theorem may_no (m : M) (L : Ls) (w : World) (hm : Nm m) (hs : (Wm.fields m.kind).isSome = false) : Calls Tryz.prog 39 #[.agg (mcells m L)] w fun e w' => e = .returned (.tuple #[.slice none 0 0, .bool false]) ∧ Chg (fun _ => False) w w' := by
  have b0 : IsM (w.alloc (.cells (mcells m L) 36)) w.heap.size m L := Blk.new w 36 (mcells m L)
  have fm := b0.mf hm.hd
  have ua := fm.kind
  have HP := Lib.hid (parts_calls m.kind (w.alloc (.cells (mcells m L) 36)))
  rw [hs] at HP
  clear fm b0 hm hs
  go_enter Tryz.func39, Tryz.ntmps39
  go_wp2_with fail
  refine HP.out.mono ?_
  rintro e w1 ⟨v, Q, rfl, hQ, hps, hc⟩
  have Hc := Lib.hid hc
  clear hQ hps hc
  go_wp2_with fail
  go_ret2
  exact ⟨rfl, ((Chg.refl _ w).alloc _).trans Hc.out⟩
end Go.Proofs.YthkfcfkkamffpaaGreat
