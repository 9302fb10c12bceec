/-
  Layer 27: lists of ints, pairs, digests read. Printed by gen_wk.py.
-/
import Derived.Test.YthkfcfkkamffpaaGreatWl
import Derived.Test.YthkfcfkkamffpaaGreatList
import Derived.Great.BuildSlice
namespace Go.Proofs.YthkfcfkkamffpaaGreat
open Go.RowKit
set_option linter.unusedVariables false
set_option linter.unusedSimpArgs false
open Wm (M Fd)
attribute [local go_sem ↓] ld_dig st_dig

theorem info_int : (Tryz.prog.info? 3).map (fun i => (i.zero, i.size, i.bytes)) = some (some (.int .i64 0), 1, 8) := by kernel_rfl
theorem info_pair : (Tryz.prog.info? 75).map (fun i => (i.zero, i.size, i.bytes)) = some (some (.agg #[.string ⟨#[]⟩, .string ⟨#[]⟩]), 2, 32) := by kernel_rfl
theorem info_digz : (Tryz.prog.info? 27).map (fun i => (i.zero, i.size, i.bytes)) = some (some (.agg #[.int .u8 0, .int .u8 0, .int .u8 0, .int .u8 0, .int .u8 0, .int .u8 0, .int .u8 0, .int .u8 0, .int .u8 0, .int .u8 0, .int .u8 0, .int .u8 0, .int .u8 0, .int .u8 0, .int .u8 0, .int .u8 0, .int .u8 0, .int .u8 0, .int .u8 0, .int .u8 0, .int .u8 0, .int .u8 0, .int .u8 0, .int .u8 0, .int .u8 0, .int .u8 0, .int .u8 0, .int .u8 0, .int .u8 0, .int .u8 0, .int .u8 0, .int .u8 0]), 32, 32) := by kernel_rfl
theorem Reads.many (w : World) (t : TypeId) (c : Array Value) (xs : List Value) (size : Nat) (hx : xs.length = size) (hc : c = xs.toArray) : Reads (w.alloc (.cells c t)) (w.heap.size + 1) size (some ⟨w.heap.size, 0, none⟩) 1 xs :=
  ⟨by omega, fun _ => ⟨_, rfl, Nat.lt_succ_self _, fun j u hu => by
    have hadd : (⟨w.heap.size, 0, none⟩ : Addr).add j = ⟨w.heap.size, j, none⟩ := by unfold Addr.add; split <;> simp_all
    rw [hadd, (Blk.new w t c).cell, hc]
    simpa using hu⟩⟩
theorem over_full (cur : Array Value) (x : List UInt8) (h : cur.size = 32) (hx : x.length = 32) : over cur 0 (bys x) = (bys x).toArray := by
  have hl : (bys x).length = 32 := by rw [bys_length]; exact hx
  unfold over
  rw [hl, List.drop_of_length_le (by simp [h])]
  simp
def bslice (t : TypeId) (n : Nat) (ps : Array (Nat × Value)) := Instr.buildSlice t n ps
theorem bs_name (n : Nat) (ps : Array (Nat × Value)) : Instr.buildSlice 32 n ps = bslice 32 n ps := rfl
attribute [local go_sem ↓] bs_name
theorem bs_dig (x : List UInt8) (hx : x.length = 32) (W3 : World) : (bslice 32 1 #[(0, .agg (bys x).toArray)]).run Tryz.prog W3 = .ok (.slice (some ⟨W3.heap.size, 0, none⟩) 1 1) (W3.alloc (.cells (bys x).toArray 27)) := by
  obtain ⟨i0, hi0, hz0, hz1, hz2⟩ := info_parts info_digz
  have hl : (bys x).length = 32 := by rw [bys_length]; exact hx
  refine run_buildSlice W3 _ _ _ _ _ i0 _ Tryz.underlying32 hi0 hz0 (by rw [hz1]; omega) (by rw [hz1]; omega) ?_
  rw [hz1]
  have h := Great.fill_whole (s := 32) (by omega) [.agg (bys x).toArray] ((Array.range (1 * 32)).map ((Value.agg #[.int .u8 0, .int .u8 0, .int .u8 0, .int .u8 0, .int .u8 0, .int .u8 0, .int .u8 0, .int .u8 0, .int .u8 0, .int .u8 0, .int .u8 0, .int .u8 0, .int .u8 0, .int .u8 0, .int .u8 0, .int .u8 0, .int .u8 0, .int .u8 0, .int .u8 0, .int .u8 0, .int .u8 0, .int .u8 0, .int .u8 0, .int .u8 0, .int .u8 0, .int .u8 0, .int .u8 0, .int .u8 0, .int .u8 0, .int .u8 0, .int .u8 0, .int .u8 0]).cells[· % (Value.agg #[.int .u8 0, .int .u8 0, .int .u8 0, .int .u8 0, .int .u8 0, .int .u8 0, .int .u8 0, .int .u8 0, .int .u8 0, .int .u8 0, .int .u8 0, .int .u8 0, .int .u8 0, .int .u8 0, .int .u8 0, .int .u8 0, .int .u8 0, .int .u8 0, .int .u8 0, .int .u8 0, .int .u8 0, .int .u8 0, .int .u8 0, .int .u8 0, .int .u8 0, .int .u8 0, .int .u8 0, .int .u8 0, .int .u8 0, .int .u8 0, .int .u8 0, .int .u8 0]).cells.size]!)) (by intro v hv; simp only [List.mem_singleton] at hv; subst hv; show (bys x).toArray.size = 32; simpa using hl) (by simp)
  refine h.trans ?_
  simp [Value.cells]

set_option maxHeartbeats 4000000 in
set_option maxRecDepth 100000 in
theorem list_int (step : Pk.Rd → Int × Pk.Rd) (g F : Nat) (most : Int) (r : Pk.Rd) (w : World)
    (h : IsR w g r) (hi : I64 most) (hlen : r.s.length ≤ 1000000000)
    (hF : ∀ (args : Array Value) (w : World), (callFunc F args).run Tryz.prog w = .ok (.enter F args) w)
    (hone : ∀ (rd : Pk.Rd) (w' : World), IsR w' g rd → rd.f = 0 → Calls Tryz.prog F #[pt g] w' fun e w'' => e = .returned ((fun x : Int => .int .i64 x) (step rd).1) ∧ IsR w'' g (step rd).2 ∧ Chg (fun b => b = g) w' w'') :
    Calls Tryz.prog 114 #[pt g, .int .i64 most, fn0 F] w fun e w' => ∃ v, e = .returned v ∧
      w'.ownsRow w.heap.size 3 1 v (r.list most step).1.length ((r.list most step).1.flatMap fun x => [.int .i64 x]) ∧ IsR w' g (r.list most step).2 ∧ Chg (fun b => b = g) w w' := by
  obtain ⟨i0, hi0, hz0, hz1, hz2⟩ := info_parts info_int
  have c2 := h.c2
  have le := h.le
  have hfn : ∀ w : World, (binOp .neq 141 (fn0 F) .nilFunc).run Tryz.prog w = .ok (.bool true) w := fun _ => by kernel_rfl
  have Hone := Lib.hid hone
  clear hone
  by_cases hf : r.f = 0
  · have Hf := Lib.hid hf
    clear hf
    go_enter Tryz.func114, Tryz.ntmps114
    rcases (show most ≤ 0 ∨ 0 < most by omega) with hm | hm
    all_goals
      go_wp2_with (go_at_call 81; refine (dead_no g r _ h Hf.out).mono ?_; rintro e w' ⟨rfl, rfl⟩)
      refine (rfree_callsI g _ most.toNat r _ ?hmi h).mono ?_
      case hmi => first | omega | (unfold I64 at hi; rw [IntKind.wrap_u64]; omega)
      rintro e w1 ⟨rfl, h1, hc1⟩
      have hs := rfree_s r most.toNat
      by_cases hf2 : (r.free most.toNat).2.f = 0
      · by_cases hl : (r.free most.toNat).2.left < (r.free most.toNat).1
        · have Hr := Lib.hid (heads_most Hf.out hf2 hl)
          generalize r.free most.toNat = p at *
          obtain ⟨n, q⟩ := p
          simp only at *
          have Hf2 := Lib.hid hf2
          have Hs := Lib.hid hs
          have hl' : q.left < n := hl
          have hql : q.left ≤ 140737488355328 := by have := h1.len; unfold Pk.Rd.left; omega
          clear hf2 hs
          go_wp2_with (first | (go_at_call 81; refine (dead_no g q _ h1 Hf2.out).mono ?_; rintro e w' ⟨rfl, rfl⟩) | (go_at_call 82; refine (left_calls g q _ h1).mono ?_; rintro e w' ⟨rfl, nq, rfl⟩) | (go_at_call 83; refine (fail_calls g q 12 12 r.pos _ rfl (h1.drewN nq) (by rw [Hs.out]; exact le)).mono ?_; rintro e w' ⟨rfl, hred⟩))
          go_ret
          unfold Pk.Rd.list
          rw [Hr.out]
          exact ⟨_, rfl, World.ownsRow_nil _ _ _ _, hred.1, (hc1.drewN _).trans hred.2⟩
        · have Hr := Lib.hid (heads_of Hf.out hf2 (by omega))
          generalize r.free most.toNat = p at *
          obtain ⟨n, q⟩ := p
          simp only at *
          have Hf2 := Lib.hid hf2
          have Hs := Lib.hid hs
          have hl' : n ≤ q.left := by omega
          have hql : q.left ≤ 1000000000 := by unfold Pk.Rd.left; rw [hs]; omega
          have hdec : decide (q.left < n) = false := by simp; omega
          clear hf2 hs hl
          go_wp2_with (first | (go_at_call 81; refine (dead_no g q _ h1 Hf2.out).mono ?_; rintro e w' ⟨rfl, rfl⟩) | (go_at_call 82; refine (left_calls g q _ h1).mono ?_; rintro e w' ⟨rfl, nq, rfl⟩))
          go_loopw [9, 10, 33] (fun lv _ iv wr => ∃ (k : Nat) (acc : List Int) (rd : Pk.Rd), k ≤ n ∧ acc.length = k ∧ iv = .int .u64 k ∧ wr.ownsRow w.heap.size 3 1 lv acc.length (acc.flatMap fun x => [.int .i64 x]) ∧ IsR wr g rd ∧ rd.f = 0 ∧ Chg (fun b => b = g) w wr ∧
              Pk.Rd.loop step (n - k) acc rd = Pk.Rd.loop step n [] q) (fun _ _ iv _ => n - (intOf iv).toNat)
          case atStart => exact ⟨0, [], q, by omega, rfl, rfl, World.ownsRow_nil _ _ _ _, h1.drewN _, Hf2.out, hc1.drewN _, rfl⟩
          case round =>
            obtain ⟨k, acc, rd, hk, hak, rfl, hown, hrd, hrf, hchg, hloop⟩ := hrel
            have Hak := Lib.hid hak
            have Hrf := Lib.hid hrf
            have hal : acc.length ≤ k := by omega
            have hsz0 := hchg.size
            clear hak hrf
            by_cases hp : k < n
            · obtain ⟨m, hm⟩ : ∃ m, n - k = m + 1 := ⟨n - k - 1, by omega⟩
              rw [hm] at hloop
              have Hm := Lib.hid hm
              clear hm
              have Hstep := Lib.hid ((Hone.out) rd)
              by_cases hbad : (step rd).2.f = 0
              · rw [Pk.Rd.loop_good hbad] at hloop
                have Hloop := Lib.hid hloop
                have Hbad := Lib.hid hbad
                clear hloop hbad
                obtain ⟨x, hx⟩ : ∃ x, (step rd).1 = x := ⟨_, rfl⟩
                obtain ⟨q2, hq2⟩ : ∃ q2, (step rd).2 = q2 := ⟨_, rfl⟩
                rw [hx, hq2] at Hstep Hloop
                have Hf3 := Lib.hid (show q2.f = 0 by rw [← hq2]; exact Hbad.out)
                have Hown := Lib.hid hown
                have Hchg := Lib.hid hchg
                have Hrd := Lib.hid hrd
                clear hx hq2 hown hchg hrd
                go_wp2_with fail
                refine ((Hstep.out) _ Hrd.out Hrf.out).mono ?_
                rintro e w2 ⟨rfl, h2, hc2⟩
                have hown3 := own_chg Hown.out hc2 (fun b hb hs => by have h3 := ((Hown.out).lt b hb).1; have := h.blk.lt; omega)
                have hsz2 := hc2.size
                go_wp2_with (first | (go_at_call 81; refine (dead_no g q2 _ h2 Hf3.out).mono ?_; rintro e w' ⟨rfl, rfl⟩) | (at_builtin; refine wpList_append_any _ rfl (.tmp 42) (.tmp 44) _ rfl w.heap.size 3 i0 _ 1 8 Tryz.underlying34 hi0 hz0 hz1 hz2 rfl (by omega) _ acc.length (acc.flatMap fun x => [.int .i64 x]) rfl (hown3.alloc _) (w2.heap.size + 1) (some ⟨w2.heap.size, 0, none⟩) 1 1 ([.int .i64 x]) rfl (Reads.many _ _ _ _ _ rfl rfl) (by simp [Value.oneCell']) (by unfold maxLen; omega) (by omega) (by simp; omega) ?_; intro v4 w4 hown4 hgr hat))
                go_roundw
                case rel =>
                  have hfin : Chg (fun b => b = g) w w4 := (((Hchg.out).trans hc2).alloc _).grown hgr (fun k hk => .inr ((hown3.lt k hk).1))
                  have hg4 : IsR w4 g q2 := ⟨(Blk.alloc h2.blk _).grown hgr (Ne.symm (own_blk_ne hown3 h2.blk (by decide))), h2.le, h2.len⟩
                  refine ⟨k + 1, acc ++ [x], q2, by omega, by simp [Hak.out], by go_num, ?_, hg4, Hf3.out, hfin, ?_⟩
                  · rw [List.length_append, List.flatMap_append]; simpa using hown4
                  · rw [show n - (k + 1) = m by have := Hm.out; omega]
                    exact Hloop.out
                case measure => simp [intOf]; omega
              · rw [Pk.Rd.loop_bad hbad] at hloop
                have Hloop := Lib.hid hloop
                have Hbad := Lib.hid hbad
                clear hloop hbad
                obtain ⟨x, hx⟩ : ∃ x, (step rd).1 = x := ⟨_, rfl⟩
                obtain ⟨q2, hq2⟩ : ∃ q2, (step rd).2 = q2 := ⟨_, rfl⟩
                rw [hx, hq2] at Hstep
                rw [hq2] at Hloop Hbad
                have Hrd := Lib.hid hrd
                have Hchg := Lib.hid hchg
                clear hx hq2 hrd hchg
                go_wp2_with fail
                refine ((Hstep.out) _ Hrd.out Hrf.out).mono ?_
                rintro e w2 ⟨rfl, h2, hc2⟩
                go_wp2_with (go_at_call 81; refine (dead_yes g _ _ h2 Hbad.out).mono ?_; rintro e w' ⟨rfl, rfl⟩)
                go_ret
                unfold Pk.Rd.list
                rw [Hr.out]
                simp only
                rw [← Hloop.out]
                exact ⟨_, rfl, World.ownsRow_nil _ _ _ _, h2, (Hchg.out).trans hc2⟩
            · obtain rfl : k = n := by omega
              rw [Nat.sub_self] at hloop
              have Hloop := Lib.hid hloop
              clear hloop
              go_wp2_with fail
              go_ret
              unfold Pk.Rd.list
              rw [Hr.out]
              simp only
              rw [← Hloop.out]
              exact ⟨_, rfl, hown, hrd, hchg⟩
      · have Hr := Lib.hid (heads_bad Hf.out hf2)
        generalize r.free most.toNat = p at *
        obtain ⟨n, q⟩ := p
        simp only at *
        have Hf2 := Lib.hid hf2
        clear hf2 hs
        go_wp2_with (go_at_call 81; refine (dead_yes g q _ h1 Hf2.out).mono ?_; rintro e w' ⟨rfl, rfl⟩)
        go_ret
        unfold Pk.Rd.list
        rw [Hr.out]
        exact ⟨_, rfl, World.ownsRow_nil _ _ _ _, h1, hc1⟩
  · have Hr := Lib.hid (heads_dead (most := most) hf)
    go_enter Tryz.func114, Tryz.ntmps114
    go_wp2_with (go_at_call 81; refine (dead_yes g r _ h hf).mono ?_; rintro e w' ⟨rfl, rfl⟩)
    go_ret
    unfold Pk.Rd.list
    rw [Hr.out]
    exact ⟨_, rfl, World.ownsRow_nil _ _ _ _, h, Chg.refl _ _⟩

set_option maxHeartbeats 4000000 in
set_option maxRecDepth 100000 in
theorem list_pair (step : Pk.Rd → (List UInt8 × List UInt8) × Pk.Rd) (g F : Nat) (most : Int) (r : Pk.Rd) (w : World)
    (h : IsR w g r) (hi : I64 most) (hlen : r.s.length ≤ 1000000000)
    (hF : ∀ (args : Array Value) (w : World), (callFunc F args).run Tryz.prog w = .ok (.enter F args) w)
    (hone : ∀ (rd : Pk.Rd) (w' : World), IsR w' g rd → rd.f = 0 → Calls Tryz.prog F #[pt g] w' fun e w'' => e = .returned ((fun x : (List UInt8 × List UInt8) => .agg #[S x.1, S x.2]) (step rd).1) ∧ IsR w'' g (step rd).2 ∧ Chg (fun b => b = g) w' w'') :
    Calls Tryz.prog 169 #[pt g, .int .i64 most, fn0 F] w fun e w' => ∃ v, e = .returned v ∧
      w'.ownsRow w.heap.size 75 2 v (r.list most step).1.length ((r.list most step).1.flatMap fun x => [S x.1, S x.2]) ∧ IsR w' g (r.list most step).2 ∧ Chg (fun b => b = g) w w' := by
  obtain ⟨i0, hi0, hz0, hz1, hz2⟩ := info_parts info_pair
  have c2 := h.c2
  have le := h.le
  have hfn : ∀ w : World, (binOp .neq 165 (fn0 F) .nilFunc).run Tryz.prog w = .ok (.bool true) w := fun _ => by kernel_rfl
  have Hone := Lib.hid hone
  clear hone
  by_cases hf : r.f = 0
  · have Hf := Lib.hid hf
    clear hf
    go_enter Tryz.func169, Tryz.ntmps169
    rcases (show most ≤ 0 ∨ 0 < most by omega) with hm | hm
    all_goals
      go_wp2_with (go_at_call 81; refine (dead_no g r _ h Hf.out).mono ?_; rintro e w' ⟨rfl, rfl⟩)
      refine (rfree_callsI g _ most.toNat r _ ?hmi h).mono ?_
      case hmi => first | omega | (unfold I64 at hi; rw [IntKind.wrap_u64]; omega)
      rintro e w1 ⟨rfl, h1, hc1⟩
      have hs := rfree_s r most.toNat
      by_cases hf2 : (r.free most.toNat).2.f = 0
      · by_cases hl : (r.free most.toNat).2.left < (r.free most.toNat).1
        · have Hr := Lib.hid (heads_most Hf.out hf2 hl)
          generalize r.free most.toNat = p at *
          obtain ⟨n, q⟩ := p
          simp only at *
          have Hf2 := Lib.hid hf2
          have Hs := Lib.hid hs
          have hl' : q.left < n := hl
          have hql : q.left ≤ 140737488355328 := by have := h1.len; unfold Pk.Rd.left; omega
          clear hf2 hs
          go_wp2_with (first | (go_at_call 81; refine (dead_no g q _ h1 Hf2.out).mono ?_; rintro e w' ⟨rfl, rfl⟩) | (go_at_call 82; refine (left_calls g q _ h1).mono ?_; rintro e w' ⟨rfl, nq, rfl⟩) | (go_at_call 83; refine (fail_calls g q 12 12 r.pos _ rfl (h1.drewN nq) (by rw [Hs.out]; exact le)).mono ?_; rintro e w' ⟨rfl, hred⟩))
          go_ret
          unfold Pk.Rd.list
          rw [Hr.out]
          exact ⟨_, rfl, World.ownsRow_nil _ _ _ _, hred.1, (hc1.drewN _).trans hred.2⟩
        · have Hr := Lib.hid (heads_of Hf.out hf2 (by omega))
          generalize r.free most.toNat = p at *
          obtain ⟨n, q⟩ := p
          simp only at *
          have Hf2 := Lib.hid hf2
          have Hs := Lib.hid hs
          have hl' : n ≤ q.left := by omega
          have hql : q.left ≤ 1000000000 := by unfold Pk.Rd.left; rw [hs]; omega
          have hdec : decide (q.left < n) = false := by simp; omega
          clear hf2 hs hl
          go_wp2_with (first | (go_at_call 81; refine (dead_no g q _ h1 Hf2.out).mono ?_; rintro e w' ⟨rfl, rfl⟩) | (go_at_call 82; refine (left_calls g q _ h1).mono ?_; rintro e w' ⟨rfl, nq, rfl⟩))
          go_loopw [9, 10, 33] (fun lv _ iv wr => ∃ (k : Nat) (acc : List (List UInt8 × List UInt8)) (rd : Pk.Rd), k ≤ n ∧ acc.length = k ∧ iv = .int .u64 k ∧ wr.ownsRow w.heap.size 75 2 lv acc.length (acc.flatMap fun x => [S x.1, S x.2]) ∧ IsR wr g rd ∧ rd.f = 0 ∧ Chg (fun b => b = g) w wr ∧
              Pk.Rd.loop step (n - k) acc rd = Pk.Rd.loop step n [] q) (fun _ _ iv _ => n - (intOf iv).toNat)
          case atStart => exact ⟨0, [], q, by omega, rfl, rfl, World.ownsRow_nil _ _ _ _, h1.drewN _, Hf2.out, hc1.drewN _, rfl⟩
          case round =>
            obtain ⟨k, acc, rd, hk, hak, rfl, hown, hrd, hrf, hchg, hloop⟩ := hrel
            have Hak := Lib.hid hak
            have Hrf := Lib.hid hrf
            have hal : acc.length ≤ k := by omega
            have hsz0 := hchg.size
            clear hak hrf
            by_cases hp : k < n
            · obtain ⟨m, hm⟩ : ∃ m, n - k = m + 1 := ⟨n - k - 1, by omega⟩
              rw [hm] at hloop
              have Hm := Lib.hid hm
              clear hm
              have Hstep := Lib.hid ((Hone.out) rd)
              by_cases hbad : (step rd).2.f = 0
              · rw [Pk.Rd.loop_good hbad] at hloop
                have Hloop := Lib.hid hloop
                have Hbad := Lib.hid hbad
                clear hloop hbad
                obtain ⟨x, hx⟩ : ∃ x, (step rd).1 = x := ⟨_, rfl⟩
                obtain ⟨q2, hq2⟩ : ∃ q2, (step rd).2 = q2 := ⟨_, rfl⟩
                rw [hx, hq2] at Hstep Hloop
                have Hf3 := Lib.hid (show q2.f = 0 by rw [← hq2]; exact Hbad.out)
                have Hown := Lib.hid hown
                have Hchg := Lib.hid hchg
                have Hrd := Lib.hid hrd
                clear hx hq2 hown hchg hrd
                go_wp2_with fail
                refine ((Hstep.out) _ ((Hrd.out).alloc _) Hrf.out).mono ?_
                rintro e w2 ⟨rfl, h2, hc2⟩
                have hlg := (Hrd.out).blk.lt
                have hb2 := (Blk.new wr 75 #[S [], S []]).chg hc2 (fun e => by omega)
                have hsz2 := hc2.size
                simp at hsz2
                have c0 : w2.cell? ⟨wr.heap.size, 0, none⟩ = some (S []) := by rw [hb2.cell]; rfl
                have c1 : w2.cell? ⟨wr.heap.size, 1, none⟩ = some (S []) := by rw [hb2.cell]; rfl
                have f0 := hb2.frozen 0
                have f1 := hb2.frozen 1
                have hc3 : Chg (fun k => k = wr.heap.size) w2 ((w2.setCell ⟨wr.heap.size, 0, none⟩ (S x.1)).setCell ⟨wr.heap.size, 1, none⟩ (S x.2)) := ((Chg.refl (fun k => k = wr.heap.size) w2).setCell (p := ⟨wr.heap.size, 0, none⟩) (.inl rfl) (S x.1)).setCell (p := ⟨wr.heap.size, 1, none⟩) (.inl rfl) (S x.2)
                have hb3 : Blk ((w2.setCell ⟨wr.heap.size, 0, none⟩ (S x.1)).setCell ⟨wr.heap.size, 1, none⟩ (S x.2)) wr.heap.size 75 #[S x.1, S x.2] := (hb2.set_ 0 (S x.1)).set_ 1 (S x.2)
                have hr3 : IsR ((w2.setCell ⟨wr.heap.size, 0, none⟩ (S x.1)).setCell ⟨wr.heap.size, 1, none⟩ (S x.2)) g q2 := h2.chg hc3 (fun e => by omega)
                have Hc3 := Lib.hid hc3
                have Hb3 := Lib.hid hb3
                have Hr3 := Lib.hid hr3
                have Hc2 := Lib.hid hc2
                clear hc3 hb3 hr3 hc2 hb2
                go_wp2_with fail
                obtain ⟨W3, hW3⟩ : ∃ W3, W3 = (w2.setCell ⟨wr.heap.size, 0, none⟩ (S x.1)).setCell ⟨wr.heap.size, 1, none⟩ (S x.2) := ⟨_, rfl⟩
                rw [← hW3] at Hc3 Hb3 Hr3 ⊢
                clear hW3 c0 c1 f0 f1 h2
                have hb3 := Hb3.out
                have hr3 := Hr3.out
                have hsz3 := (Hc3.out).size
                have e0 : W3.cell? ⟨wr.heap.size, 0, none⟩ = some (S x.1) := by rw [hb3.cell]; rfl
                have e1 : W3.cell? ⟨wr.heap.size, 1, none⟩ = some (S x.2) := by rw [hb3.cell]; rfl
                have hcc : Chg (fun k => k = g ∨ k = wr.heap.size) wr W3 := (((Chg.refl (fun k => k = g ∨ k = wr.heap.size) wr).alloc _).andThen Hc2.out (fun _ _ e => .inl e)).andThen Hc3.out (fun _ _ e => .inr e)
                have hown3 := own_chg Hown.out hcc (fun b hb hs => by have h3 := ((Hown.out).lt b hb).1; have h4 := ((Hown.out).lt b hb).2; have := h.blk.lt; omega)
                have Hcc := Lib.hid hcc
                clear hcc hb3
                go_wp2_with (first | (go_at_call 81; refine (dead_no g q2 _ hr3 Hf3.out).mono ?_; rintro e w' ⟨rfl, rfl⟩) | (at_builtin; refine wpList_append_any _ rfl (.tmp 42) (.tmp 44) _ rfl w.heap.size 75 i0 _ 2 32 Tryz.underlying33 hi0 hz0 hz1 hz2 rfl (by omega) _ acc.length (acc.flatMap fun x => [S x.1, S x.2]) rfl (hown3.alloc _) (W3.heap.size + 1) (some ⟨W3.heap.size, 0, none⟩) 1 1 ([S x.1, S x.2]) rfl (Reads.many _ _ _ _ _ rfl rfl) (by simp [Value.oneCell']) (by unfold maxLen; omega) (by omega) (by simp; omega) ?_; intro v4 w4 hown4 hgr hat))
                go_roundw
                case rel =>
                  have hfin : Chg (fun b => b = g) w w4 := (((Hchg.out).andThen Hcc.out (fun k hk e => by omega)).alloc _).grown hgr (fun k hk => .inr ((hown3.lt k hk).1))
                  have hg4 : IsR w4 g q2 := ⟨(Blk.alloc (Hr3.out).blk _).grown hgr (Ne.symm (own_blk_ne hown3 (Hr3.out).blk (by decide))), (Hr3.out).le, (Hr3.out).len⟩
                  refine ⟨k + 1, acc ++ [x], q2, by omega, by simp [Hak.out], by go_num, ?_, hg4, Hf3.out, hfin, ?_⟩
                  · rw [List.length_append, List.flatMap_append]; simpa using hown4
                  · rw [show n - (k + 1) = m by have := Hm.out; omega]
                    exact Hloop.out
                case measure => simp [intOf]; omega
              · rw [Pk.Rd.loop_bad hbad] at hloop
                have Hloop := Lib.hid hloop
                have Hbad := Lib.hid hbad
                clear hloop hbad
                obtain ⟨x, hx⟩ : ∃ x, (step rd).1 = x := ⟨_, rfl⟩
                obtain ⟨q2, hq2⟩ : ∃ q2, (step rd).2 = q2 := ⟨_, rfl⟩
                rw [hx, hq2] at Hstep
                rw [hq2] at Hloop Hbad
                have Hrd := Lib.hid hrd
                have Hchg := Lib.hid hchg
                clear hx hq2 hrd hchg
                go_wp2_with fail
                refine ((Hstep.out) _ ((Hrd.out).alloc _) Hrf.out).mono ?_
                rintro e w2 ⟨rfl, h2, hc2⟩
                have hlg := (Hrd.out).blk.lt
                have hb2 := (Blk.new wr 75 #[S [], S []]).chg hc2 (fun e => by omega)
                have hsz2 := hc2.size
                simp at hsz2
                have c0 : w2.cell? ⟨wr.heap.size, 0, none⟩ = some (S []) := by rw [hb2.cell]; rfl
                have c1 : w2.cell? ⟨wr.heap.size, 1, none⟩ = some (S []) := by rw [hb2.cell]; rfl
                have f0 := hb2.frozen 0
                have f1 := hb2.frozen 1
                have hc3 : Chg (fun k => k = wr.heap.size) w2 ((w2.setCell ⟨wr.heap.size, 0, none⟩ (S x.1)).setCell ⟨wr.heap.size, 1, none⟩ (S x.2)) := ((Chg.refl (fun k => k = wr.heap.size) w2).setCell (p := ⟨wr.heap.size, 0, none⟩) (.inl rfl) (S x.1)).setCell (p := ⟨wr.heap.size, 1, none⟩) (.inl rfl) (S x.2)
                have hb3 : Blk ((w2.setCell ⟨wr.heap.size, 0, none⟩ (S x.1)).setCell ⟨wr.heap.size, 1, none⟩ (S x.2)) wr.heap.size 75 #[S x.1, S x.2] := (hb2.set_ 0 (S x.1)).set_ 1 (S x.2)
                have hr3 : IsR ((w2.setCell ⟨wr.heap.size, 0, none⟩ (S x.1)).setCell ⟨wr.heap.size, 1, none⟩ (S x.2)) g q2 := h2.chg hc3 (fun e => by omega)
                have Hc3 := Lib.hid hc3
                have Hb3 := Lib.hid hb3
                have Hr3 := Lib.hid hr3
                have Hc2 := Lib.hid hc2
                clear hc3 hb3 hr3 hc2 hb2
                go_wp2_with fail
                obtain ⟨W3, hW3⟩ : ∃ W3, W3 = (w2.setCell ⟨wr.heap.size, 0, none⟩ (S x.1)).setCell ⟨wr.heap.size, 1, none⟩ (S x.2) := ⟨_, rfl⟩
                rw [← hW3] at Hc3 Hb3 Hr3 ⊢
                clear hW3 c0 c1 f0 f1 h2
                have hb3 := Hb3.out
                have hr3 := Hr3.out
                have hsz3 := (Hc3.out).size
                have hcc : Chg (fun k => k = g ∨ k = wr.heap.size) wr W3 := (((Chg.refl (fun k => k = g ∨ k = wr.heap.size) wr).alloc _).andThen Hc2.out (fun _ _ e => .inl e)).andThen Hc3.out (fun _ _ e => .inr e)
                have Hcc := Lib.hid hcc
                clear hcc hb3
                go_wp2_with (go_at_call 81; refine (dead_yes g _ _ hr3 Hbad.out).mono ?_; rintro e w' ⟨rfl, rfl⟩)
                go_ret
                unfold Pk.Rd.list
                rw [Hr.out]
                simp only
                rw [← Hloop.out]
                exact ⟨_, rfl, World.ownsRow_nil _ _ _ _, hr3, (Hchg.out).andThen Hcc.out (fun k hk e => by omega)⟩
            · obtain rfl : k = n := by omega
              rw [Nat.sub_self] at hloop
              have Hloop := Lib.hid hloop
              clear hloop
              go_wp2_with fail
              go_ret
              unfold Pk.Rd.list
              rw [Hr.out]
              simp only
              rw [← Hloop.out]
              exact ⟨_, rfl, hown, hrd, hchg⟩
      · have Hr := Lib.hid (heads_bad Hf.out hf2)
        generalize r.free most.toNat = p at *
        obtain ⟨n, q⟩ := p
        simp only at *
        have Hf2 := Lib.hid hf2
        clear hf2 hs
        go_wp2_with (go_at_call 81; refine (dead_yes g q _ h1 Hf2.out).mono ?_; rintro e w' ⟨rfl, rfl⟩)
        go_ret
        unfold Pk.Rd.list
        rw [Hr.out]
        exact ⟨_, rfl, World.ownsRow_nil _ _ _ _, h1, hc1⟩
  · have Hr := Lib.hid (heads_dead (most := most) hf)
    go_enter Tryz.func169, Tryz.ntmps169
    go_wp2_with (go_at_call 81; refine (dead_yes g r _ h hf).mono ?_; rintro e w' ⟨rfl, rfl⟩)
    go_ret
    unfold Pk.Rd.list
    rw [Hr.out]
    exact ⟨_, rfl, World.ownsRow_nil _ _ _ _, h, Chg.refl _ _⟩

set_option maxHeartbeats 4000000 in
set_option maxRecDepth 100000 in
theorem list_dig (step : Pk.Rd → (List UInt8) × Pk.Rd) (g F : Nat) (most : Int) (r : Pk.Rd) (w : World)
    (h : IsR w g r) (hi : I64 most) (hlen : r.s.length ≤ 1000000000) (hsz : ∀ rd, (step rd).1.length = 32)
    (hF : ∀ (args : Array Value) (w : World), (callFunc F args).run Tryz.prog w = .ok (.enter F args) w)
    (hone : ∀ (rd : Pk.Rd) (w' : World), IsR w' g rd → rd.f = 0 → Calls Tryz.prog F #[pt g] w' fun e w'' => e = .returned ((fun x : (List UInt8) => .agg (bys x).toArray) (step rd).1) ∧ IsR w'' g (step rd).2 ∧ Chg (fun b => b = g) w' w'') :
    Calls Tryz.prog 186 #[pt g, .int .i64 most, fn0 F] w fun e w' => ∃ v, e = .returned v ∧
      w'.ownsRow w.heap.size 27 32 v (r.list most step).1.length ((r.list most step).1.flatMap fun x => bys x) ∧ IsR w' g (r.list most step).2 ∧ Chg (fun b => b = g) w w' := by
  obtain ⟨i0, hi0, hz0, hz1, hz2⟩ := info_parts info_digz
  have c2 := h.c2
  have le := h.le
  have hfn : ∀ w : World, (binOp .neq 173 (fn0 F) .nilFunc).run Tryz.prog w = .ok (.bool true) w := fun _ => by kernel_rfl
  have Hone := Lib.hid hone
  have Hsz := Lib.hid hsz
  clear hsz
  clear hone
  by_cases hf : r.f = 0
  · have Hf := Lib.hid hf
    clear hf
    go_enter Tryz.func186, Tryz.ntmps186
    rcases (show most ≤ 0 ∨ 0 < most by omega) with hm | hm
    all_goals
      go_wp2_with (go_at_call 81; refine (dead_no g r _ h Hf.out).mono ?_; rintro e w' ⟨rfl, rfl⟩)
      refine (rfree_callsI g _ most.toNat r _ ?hmi h).mono ?_
      case hmi => first | omega | (unfold I64 at hi; rw [IntKind.wrap_u64]; omega)
      rintro e w1 ⟨rfl, h1, hc1⟩
      have hs := rfree_s r most.toNat
      by_cases hf2 : (r.free most.toNat).2.f = 0
      · by_cases hl : (r.free most.toNat).2.left < (r.free most.toNat).1
        · have Hr := Lib.hid (heads_most Hf.out hf2 hl)
          generalize r.free most.toNat = p at *
          obtain ⟨n, q⟩ := p
          simp only at *
          have Hf2 := Lib.hid hf2
          have Hs := Lib.hid hs
          have hl' : q.left < n := hl
          have hql : q.left ≤ 140737488355328 := by have := h1.len; unfold Pk.Rd.left; omega
          clear hf2 hs
          go_wp2_with (first | (go_at_call 81; refine (dead_no g q _ h1 Hf2.out).mono ?_; rintro e w' ⟨rfl, rfl⟩) | (go_at_call 82; refine (left_calls g q _ h1).mono ?_; rintro e w' ⟨rfl, nq, rfl⟩) | (go_at_call 83; refine (fail_calls g q 12 12 r.pos _ rfl (h1.drewN nq) (by rw [Hs.out]; exact le)).mono ?_; rintro e w' ⟨rfl, hred⟩))
          go_ret
          unfold Pk.Rd.list
          rw [Hr.out]
          exact ⟨_, rfl, World.ownsRow_nil _ _ _ _, hred.1, (hc1.drewN _).trans hred.2⟩
        · have Hr := Lib.hid (heads_of Hf.out hf2 (by omega))
          generalize r.free most.toNat = p at *
          obtain ⟨n, q⟩ := p
          simp only at *
          have Hf2 := Lib.hid hf2
          have Hs := Lib.hid hs
          have hl' : n ≤ q.left := by omega
          have hql : q.left ≤ 1000000000 := by unfold Pk.Rd.left; rw [hs]; omega
          have hdec : decide (q.left < n) = false := by simp; omega
          clear hf2 hs hl
          go_wp2_with (first | (go_at_call 81; refine (dead_no g q _ h1 Hf2.out).mono ?_; rintro e w' ⟨rfl, rfl⟩) | (go_at_call 82; refine (left_calls g q _ h1).mono ?_; rintro e w' ⟨rfl, nq, rfl⟩))
          go_loopw [9, 10, 33] (fun lv _ iv wr => ∃ (k : Nat) (acc : List (List UInt8)) (rd : Pk.Rd), k ≤ n ∧ acc.length = k ∧ iv = .int .u64 k ∧ wr.ownsRow w.heap.size 27 32 lv acc.length (acc.flatMap fun x => bys x) ∧ IsR wr g rd ∧ rd.f = 0 ∧ Chg (fun b => b = g) w wr ∧
              Pk.Rd.loop step (n - k) acc rd = Pk.Rd.loop step n [] q) (fun _ _ iv _ => n - (intOf iv).toNat)
          case atStart => exact ⟨0, [], q, by omega, rfl, rfl, World.ownsRow_nil _ _ _ _, h1.drewN _, Hf2.out, hc1.drewN _, rfl⟩
          case round =>
            obtain ⟨k, acc, rd, hk, hak, rfl, hown, hrd, hrf, hchg, hloop⟩ := hrel
            have Hak := Lib.hid hak
            have Hrf := Lib.hid hrf
            have hal : acc.length ≤ k := by omega
            have hsz0 := hchg.size
            clear hak hrf
            by_cases hp : k < n
            · obtain ⟨m, hm⟩ : ∃ m, n - k = m + 1 := ⟨n - k - 1, by omega⟩
              rw [hm] at hloop
              have Hm := Lib.hid hm
              clear hm
              have Hstep := Lib.hid ((Hone.out) rd)
              by_cases hbad : (step rd).2.f = 0
              · rw [Pk.Rd.loop_good hbad] at hloop
                have Hloop := Lib.hid hloop
                have Hbad := Lib.hid hbad
                have hx32 := (Hsz.out) rd
                clear hloop hbad
                obtain ⟨x, hx⟩ : ∃ x, (step rd).1 = x := ⟨_, rfl⟩
                obtain ⟨q2, hq2⟩ : ∃ q2, (step rd).2 = q2 := ⟨_, rfl⟩
                rw [hx, hq2] at Hstep Hloop
                rw [hx] at hx32
                have Hx32 := Lib.hid hx32
                clear hx32
                have Hf3 := Lib.hid (show q2.f = 0 by rw [← hq2]; exact Hbad.out)
                have Hown := Lib.hid hown
                have Hchg := Lib.hid hchg
                have Hrd := Lib.hid hrd
                clear hx hq2 hown hchg hrd
                go_wp2_with fail
                refine ((Hstep.out) _ ((Hrd.out).alloc _) Hrf.out).mono ?_
                rintro e w2 ⟨rfl, h2, hc2⟩
                have hlg := (Hrd.out).blk.lt
                have hb2 := (Blk.new wr 27 #[.int .u8 0, .int .u8 0, .int .u8 0, .int .u8 0, .int .u8 0, .int .u8 0, .int .u8 0, .int .u8 0, .int .u8 0, .int .u8 0, .int .u8 0, .int .u8 0, .int .u8 0, .int .u8 0, .int .u8 0, .int .u8 0, .int .u8 0, .int .u8 0, .int .u8 0, .int .u8 0, .int .u8 0, .int .u8 0, .int .u8 0, .int .u8 0, .int .u8 0, .int .u8 0, .int .u8 0, .int .u8 0, .int .u8 0, .int .u8 0, .int .u8 0, .int .u8 0]).chg hc2 (fun e => by omega)
                have hsz2 := hc2.size
                simp at hsz2
                have hst := st_mid w2 wr.heap.size 0 27 _ x (Hx32.out) hb2 (by show 0 + 32 ≤ 32; omega)
                rw [over_full _ _ rfl (Hx32.out)] at hst
                have hc3 : Chg (fun k => k = wr.heap.size) w2 (w2.setRow wr.heap.size (bys x).toArray) := (Chg.refl (fun k => k = wr.heap.size) w2).setRow (g := wr.heap.size) (.inl rfl) (bys x).toArray
                have hb3 : Blk (w2.setRow wr.heap.size (bys x).toArray) wr.heap.size 27 (bys x).toArray := Blk.setRow hb2 _
                have hr3 : IsR (w2.setRow wr.heap.size (bys x).toArray) g q2 := h2.chg hc3 (fun e => by omega)
                have Hc3 := Lib.hid hc3
                have Hb3 := Lib.hid hb3
                have Hr3 := Lib.hid hr3
                have Hc2 := Lib.hid hc2
                clear hc3 hb3 hr3 hc2 hb2
                go_wp2_with fail
                obtain ⟨W3, hW3⟩ : ∃ W3, W3 = w2.setRow wr.heap.size (bys x).toArray := ⟨_, rfl⟩
                rw [← hW3] at Hc3 Hb3 Hr3 ⊢
                clear hW3 hst h2
                have hb3 := Hb3.out
                have hr3 := Hr3.out
                have hsz3 := (Hc3.out).size
                have hbs := bs_dig x (Hx32.out)
                have hla := ld_mid W3 wr.heap.size 0 x (Hx32.out) (fun j v hv => by rw [Nat.zero_add, hb3.cell]; simpa using hv)
                have hcc : Chg (fun k => k = g ∨ k = wr.heap.size) wr W3 := (((Chg.refl (fun k => k = g ∨ k = wr.heap.size) wr).alloc _).andThen Hc2.out (fun _ _ e => .inl e)).andThen Hc3.out (fun _ _ e => .inr e)
                have hown3 := own_chg Hown.out hcc (fun b hb hs => by have h3 := ((Hown.out).lt b hb).1; have h4 := ((Hown.out).lt b hb).2; have := h.blk.lt; omega)
                have Hcc := Lib.hid hcc
                clear hcc hb3
                go_wp2_with (first | (go_at_call 81; refine (dead_no g q2 _ hr3 Hf3.out).mono ?_; rintro e w' ⟨rfl, rfl⟩) | (at_builtin; refine wpList_append_any _ rfl (.tmp 42) (.tmp 44) _ rfl w.heap.size 27 i0 _ 32 32 Tryz.underlying32 hi0 hz0 hz1 hz2 rfl (by omega) _ acc.length (acc.flatMap fun x => bys x) rfl (hown3.alloc _) (W3.heap.size + 1) (some ⟨W3.heap.size, 0, none⟩) 1 1 (bys x) rfl (Reads.many _ _ _ _ _ (by rw [bys_length]; exact Hx32.out) rfl) (bys_one x) (by unfold maxLen; omega) (by omega) (by simp; omega) ?_; intro v4 w4 hown4 hgr hat))
                go_roundw
                case rel =>
                  have hfin : Chg (fun b => b = g) w w4 := (((Hchg.out).andThen Hcc.out (fun k hk e => by omega)).alloc _).grown hgr (fun k hk => .inr ((hown3.lt k hk).1))
                  have hg4 : IsR w4 g q2 := ⟨(Blk.alloc (Hr3.out).blk _).grown hgr (Ne.symm (own_blk_ne hown3 (Hr3.out).blk (by decide))), (Hr3.out).le, (Hr3.out).len⟩
                  refine ⟨k + 1, acc ++ [x], q2, by omega, by simp [Hak.out], by go_num, ?_, hg4, Hf3.out, hfin, ?_⟩
                  · rw [List.length_append, List.flatMap_append]; simpa using hown4
                  · rw [show n - (k + 1) = m by have := Hm.out; omega]
                    exact Hloop.out
                case measure => simp [intOf]; omega
              · rw [Pk.Rd.loop_bad hbad] at hloop
                have Hloop := Lib.hid hloop
                have Hbad := Lib.hid hbad
                have hx32 := (Hsz.out) rd
                clear hloop hbad
                obtain ⟨x, hx⟩ : ∃ x, (step rd).1 = x := ⟨_, rfl⟩
                obtain ⟨q2, hq2⟩ : ∃ q2, (step rd).2 = q2 := ⟨_, rfl⟩
                rw [hx, hq2] at Hstep
                rw [hq2] at Hloop Hbad
                rw [hx] at hx32
                have Hx32 := Lib.hid hx32
                clear hx32
                have Hrd := Lib.hid hrd
                have Hchg := Lib.hid hchg
                clear hx hq2 hrd hchg
                go_wp2_with fail
                refine ((Hstep.out) _ ((Hrd.out).alloc _) Hrf.out).mono ?_
                rintro e w2 ⟨rfl, h2, hc2⟩
                have hlg := (Hrd.out).blk.lt
                have hb2 := (Blk.new wr 27 #[.int .u8 0, .int .u8 0, .int .u8 0, .int .u8 0, .int .u8 0, .int .u8 0, .int .u8 0, .int .u8 0, .int .u8 0, .int .u8 0, .int .u8 0, .int .u8 0, .int .u8 0, .int .u8 0, .int .u8 0, .int .u8 0, .int .u8 0, .int .u8 0, .int .u8 0, .int .u8 0, .int .u8 0, .int .u8 0, .int .u8 0, .int .u8 0, .int .u8 0, .int .u8 0, .int .u8 0, .int .u8 0, .int .u8 0, .int .u8 0, .int .u8 0, .int .u8 0]).chg hc2 (fun e => by omega)
                have hsz2 := hc2.size
                simp at hsz2
                have hst := st_mid w2 wr.heap.size 0 27 _ x (Hx32.out) hb2 (by show 0 + 32 ≤ 32; omega)
                rw [over_full _ _ rfl (Hx32.out)] at hst
                have hc3 : Chg (fun k => k = wr.heap.size) w2 (w2.setRow wr.heap.size (bys x).toArray) := (Chg.refl (fun k => k = wr.heap.size) w2).setRow (g := wr.heap.size) (.inl rfl) (bys x).toArray
                have hb3 : Blk (w2.setRow wr.heap.size (bys x).toArray) wr.heap.size 27 (bys x).toArray := Blk.setRow hb2 _
                have hr3 : IsR (w2.setRow wr.heap.size (bys x).toArray) g q2 := h2.chg hc3 (fun e => by omega)
                have Hc3 := Lib.hid hc3
                have Hb3 := Lib.hid hb3
                have Hr3 := Lib.hid hr3
                have Hc2 := Lib.hid hc2
                clear hc3 hb3 hr3 hc2 hb2
                go_wp2_with fail
                obtain ⟨W3, hW3⟩ : ∃ W3, W3 = w2.setRow wr.heap.size (bys x).toArray := ⟨_, rfl⟩
                rw [← hW3] at Hc3 Hb3 Hr3 ⊢
                clear hW3 hst h2
                have hb3 := Hb3.out
                have hr3 := Hr3.out
                have hsz3 := (Hc3.out).size
                have hcc : Chg (fun k => k = g ∨ k = wr.heap.size) wr W3 := (((Chg.refl (fun k => k = g ∨ k = wr.heap.size) wr).alloc _).andThen Hc2.out (fun _ _ e => .inl e)).andThen Hc3.out (fun _ _ e => .inr e)
                have Hcc := Lib.hid hcc
                clear hcc hb3
                go_wp2_with (go_at_call 81; refine (dead_yes g _ _ hr3 Hbad.out).mono ?_; rintro e w' ⟨rfl, rfl⟩)
                go_ret
                unfold Pk.Rd.list
                rw [Hr.out]
                simp only
                rw [← Hloop.out]
                exact ⟨_, rfl, World.ownsRow_nil _ _ _ _, hr3, (Hchg.out).andThen Hcc.out (fun k hk e => by omega)⟩
            · obtain rfl : k = n := by omega
              rw [Nat.sub_self] at hloop
              have Hloop := Lib.hid hloop
              clear hloop
              go_wp2_with fail
              go_ret
              unfold Pk.Rd.list
              rw [Hr.out]
              simp only
              rw [← Hloop.out]
              exact ⟨_, rfl, hown, hrd, hchg⟩
      · have Hr := Lib.hid (heads_bad Hf.out hf2)
        generalize r.free most.toNat = p at *
        obtain ⟨n, q⟩ := p
        simp only at *
        have Hf2 := Lib.hid hf2
        clear hf2 hs
        go_wp2_with (go_at_call 81; refine (dead_yes g q _ h1 Hf2.out).mono ?_; rintro e w' ⟨rfl, rfl⟩)
        go_ret
        unfold Pk.Rd.list
        rw [Hr.out]
        exact ⟨_, rfl, World.ownsRow_nil _ _ _ _, h1, hc1⟩
  · have Hr := Lib.hid (heads_dead (most := most) hf)
    go_enter Tryz.func186, Tryz.ntmps186
    go_wp2_with (go_at_call 81; refine (dead_yes g r _ h hf).mono ?_; rintro e w' ⟨rfl, rfl⟩)
    go_ret
    unfold Pk.Rd.list
    rw [Hr.out]
    exact ⟨_, rfl, World.ownsRow_nil _ _ _ _, h, Chg.refl _ _⟩
end Go.Proofs.YthkfcfkkamffpaaGreat
