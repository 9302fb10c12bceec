/-
  pack.List at the types whose things are one cell: the list of what the function that is handed in reads. Printed by gen_pack.py.
-/
import Derived.Test.YtkajbpdhglaieaaRraw
import Derived.Test.YtkajbpdhglaieaaPl
namespace Go.Proofs.Ytkajbpdhglaieaa
open Go.RowKit
set_option linter.unusedVariables false

theorem info_u64 : (Try.prog.info? 22).map (fun i => (i.zero, i.size, i.bytes)) = some (some (.int .u64 0), 1, 8) := by kernel_rfl
theorem info_str : (Try.prog.info? 9).map (fun i => (i.zero, i.size, i.bytes)) = some (some (.string ⟨#[]⟩), 1, 16) := by kernel_rfl

/-- The function value (F, caps) reads one thing, in the state k of what it has captured. -/
def Reads1 {α : Type} (val : α → Value) (step : Pk.Rd → α × Pk.Rd) (T : Nat → Prop) (I : Nat → World → Prop) (g F : Nat) (caps : Array Value) : Prop :=
  ∀ (k : Nat) (r : Pk.Rd) (w : World), IsR w g r → r.f = 0 → I k w →
    Calls Try.prog F (#[.pointer (some ⟨g, 0, none⟩)] ++ caps) w fun e w' => e = .returned (val (step r).1) ∧ IsR w' g (step r).2 ∧ (step r).2.s = r.s ∧ Chg (fun b => b = g ∨ T b) w w' ∧ I (k + 1) w'

theorem heads_of {r : Pk.Rd} {most : Int} (hf : r.f = 0) (h : (r.free most.toNat).2.f = 0) (hl : (r.free most.toNat).1 ≤ (r.free most.toNat).2.left) : r.heads most = r.free most.toNat := by
  unfold Pk.Rd.heads; rw [if_neg (by omega), if_neg (by omega), if_neg (by omega)]
theorem heads_most {r : Pk.Rd} {most : Int} (hf : r.f = 0) (h : (r.free most.toNat).2.f = 0) (hl : (r.free most.toNat).2.left < (r.free most.toNat).1) : r.heads most = (0, { (r.free most.toNat).2 with f := 12, pos := r.pos }) := by
  unfold Pk.Rd.heads; rw [if_neg (by omega), if_neg (by omega), if_pos hl]
theorem heads_bad {r : Pk.Rd} {most : Int} (hf : r.f = 0) (h : (r.free most.toNat).2.f ≠ 0) : r.heads most = (0, (r.free most.toNat).2) := by
  unfold Pk.Rd.heads; rw [if_neg (by omega), if_pos h]
theorem heads_dead {r : Pk.Rd} {most : Int} (hf : r.f ≠ 0) : r.heads most = (0, r) := by
  unfold Pk.Rd.heads; rw [if_pos hf]

set_option maxHeartbeats 2000000 in
set_option maxRecDepth 100000 in
theorem list_uint64 (step : Pk.Rd → Nat × Pk.Rd) (T : Nat → Prop) (I : Nat → World → Prop) (g F : Nat) (caps : Array Value) (most : Int) (r : Pk.Rd) (w : World)
    (h : IsR w g r) (hi : I64 most) (hlen : r.s.length ≤ 4398046511104) (h0 : I 0 w) (hT : ∀ b, T b → b < w.heap.size)
    (hI : ∀ k w1 w2, w.heap.size ≤ w1.heap.size → I k w1 → Chg (fun b => b = g ∨ w.heap.size ≤ b) w1 w2 → I k w2)
    (hF : ∀ (args : Array Value) (w : World), (callFunc F args).run Try.prog w = .ok (.enter F args) w)
    (hone : Reads1 (fun x : Nat => Value.int .u64 (x : Int)) step T I g F caps) :
    Calls Try.prog 28 #[.pointer (some ⟨g, 0, none⟩), .int .i64 most, .func (.func F) #[] caps] w fun e w' => ∃ v, e = .returned v ∧
      w'.ownsRow w.heap.size 22 1 v (r.list most step).1.length ((r.list most step).1.map fun x : Nat => Value.int .u64 (x : Int)) ∧ IsR w' g (r.list most step).2 ∧ Chg (fun b => b = g ∨ T b) w w' ∧ I (Pk.Rd.count step (r.heads most).1 (r.heads most).2) w' := by
  obtain ⟨i0, hi0, hz0, hz1, hz2⟩ := info_parts info_u64
  have c2 := h.c2
  have le := h.le
  have hfn : ∀ w : World, (binOp .neq 55 (.func (.func F) #[] caps) .nilFunc).run Try.prog w = .ok (.bool true) w := fun _ => by kernel_rfl
  have Hone := Lib.hid hone
  have HI := Lib.hid hI
  have HT := Lib.hid hT
  clear hone hI hT
  by_cases hf : r.f = 0
  · have Hf := Lib.hid hf
    clear hf
    go_enter Try.func28, Try.ntmps28
    rcases (show most ≤ 0 ∨ 0 < most by omega) with hm | hm
    all_goals
      go_wp2_with (go_at_call 70; refine (dead_no g r _ h Hf.out).mono ?_; rintro e w' ⟨rfl, rfl⟩)
      refine (rfree_callsI g _ most.toNat r _ ?hmi h).mono ?_
      case hmi => first | omega | (unfold I64 at hi; rw [IntKind.wrap_u64]; omega)
      rintro e w1 ⟨rfl, h1, hc1⟩
      have hi1 : I 0 w1 := HI.out 0 w w1 (Nat.le_refl _) h0 (hc1.mono fun _ _ h => .inl h)
      have hs := rfree_s r most.toNat
      by_cases hf2 : (r.free most.toNat).2.f = 0
      · by_cases hl : (r.free most.toNat).2.left < (r.free most.toNat).1
        · have Hr := Lib.hid (heads_most Hf.out hf2 hl)
          generalize r.free most.toNat = p at *
          obtain ⟨n, q⟩ := p
          simp only at *
          have Hf2 := Lib.hid hf2
          have Hs := Lib.hid hs
          have hl' : q.left < n := hl
          have hql : q.left ≤ 140737488355328 := by have := h1.len; unfold Pk.Rd.left; omega
          clear hf2 hs
          go_wp2_with (first | (go_at_call 70; refine (dead_no g q _ h1 Hf2.out).mono ?_; rintro e w' ⟨rfl, rfl⟩) | (go_at_call 25; refine (left_calls g q _ h1).mono ?_; rintro e w' ⟨rfl, nq, rfl⟩) | (go_at_call 71; refine (fail_calls g q 12 12 r.pos _ rfl (h1.drewN nq) (by rw [Hs.out]; exact le)).mono ?_; rintro e w' ⟨rfl, hred⟩))
          go_ret
          unfold Pk.Rd.list
          rw [Hr.out]
          exact ⟨_, rfl, World.ownsRow_nil _ _ _ _, hred.1, ((hc1.drewN _).trans hred.2).mono fun _ _ h => .inl h, HI.out 0 w1 _ hc1.size hi1 ((((Chg.refl _ w1).drewN _).trans hred.2).mono fun _ _ h => .inl h)⟩
        · have Hr := Lib.hid (heads_of Hf.out hf2 (by omega))
          generalize r.free most.toNat = p at *
          obtain ⟨n, q⟩ := p
          simp only at *
          have Hf2 := Lib.hid hf2
          have Hs := Lib.hid hs
          have hl' : n ≤ q.left := by omega
          have hql : q.left ≤ 4398046511104 := by unfold Pk.Rd.left; rw [hs]; omega
          have hdec : decide (q.left < n) = false := by simp; omega
          clear hf2 hs hl
          go_wp2_with (first | (go_at_call 70; refine (dead_no g q _ h1 Hf2.out).mono ?_; rintro e w' ⟨rfl, rfl⟩) | (go_at_call 25; refine (left_calls g q _ h1).mono ?_; rintro e w' ⟨rfl, nq, rfl⟩))
          go_loopw [9, 10, 33] (fun lv _ iv wr => ∃ (k : Nat) (acc : List Nat) (rd : Pk.Rd), k ≤ n ∧ acc.length = k ∧ iv = .int .u64 k ∧ wr.ownsRow w.heap.size 22 1 lv acc.length (acc.map fun x : Nat => Value.int .u64 (x : Int)) ∧ IsR wr g rd ∧ rd.f = 0 ∧ Chg (fun b => b = g ∨ T b) w wr ∧ I k wr ∧
              Pk.Rd.loop step (n - k) acc rd = Pk.Rd.loop step n [] q ∧ k + Pk.Rd.count step (n - k) rd = Pk.Rd.count step n q) (fun _ _ iv _ => n - (intOf iv).toNat)
          case atStart => exact ⟨0, [], q, by omega, rfl, rfl, World.ownsRow_nil _ _ _ _, h1.drewN _, Hf2.out, (hc1.mono fun _ _ h => .inl h).drewN _, HI.out 0 w1 _ hc1.size hi1 ((Chg.refl _ w1).drewN _), rfl, by simp⟩
          case round =>
            obtain ⟨k, acc, rd, hk, hak, rfl, hown, hrd, hrf, hchg, hik, hloop, hcnt⟩ := hrel
            have Hak := Lib.hid hak
            have Hrf := Lib.hid hrf
            have hal : acc.length ≤ k := by omega
            clear hak hrf
            by_cases hp : k < n
            · obtain ⟨m, hm⟩ : ∃ m, n - k = m + 1 := ⟨n - k - 1, by omega⟩
              rw [hm] at hloop hcnt
              have Hm := Lib.hid hm
              clear hm
              have Hstep := Lib.hid (Hone.out k rd)
              by_cases hbad : (step rd).2.f = 0
              · rw [Pk.Rd.loop_good hbad] at hloop
                rw [Pk.Rd.count_good hbad] at hcnt
                have Hloop := Lib.hid hloop
                have Hcnt := Lib.hid hcnt
                have Hbad := Lib.hid hbad
                clear hloop hcnt hbad
                go_wp2_with fail
                refine (Hstep.out _ hrd Hrf.out hik).mono ?_
                rintro e w2 ⟨rfl, h2, hs2, hc2, hi2⟩
                have Hs2 := Lib.hid hs2
                clear hs2
                have hown2 := own_chg hown hc2 (fun b hb hs => by
                  have h3 := (hown.lt b hb).1
                  rcases hs with hs | hs
                  · have := h.blk.lt; omega
                  · have := HT.out b hs; omega)
                obtain ⟨x, hx⟩ : ∃ x, (step rd).1 = x := ⟨_, rfl⟩
                obtain ⟨q2, hq2⟩ : ∃ q2, (step rd).2 = q2 := ⟨_, rfl⟩
                rw [hx]
                rw [hq2] at h2
                have Hx := Lib.hid hx
                have Hq2 := Lib.hid hq2
                have Hf3 := Lib.hid (show q2.f = 0 by rw [← hq2]; exact Hbad.out)
                clear hx hq2
                go_wp2_with (first | (go_at_call 70; refine (dead_no g q2 _ h2 Hf3.out).mono ?_; rintro e w' ⟨rfl, rfl⟩) | (at_builtin; refine wpList_append_any _ rfl (.tmp 42) (.tmp 44) _ rfl w.heap.size 22 i0 _ 1 8 Try.underlying37 hi0 hz0 hz1 hz2 rfl (by omega) _ acc.length (acc.map fun x : Nat => Value.int .u64 (x : Int)) rfl (hown2.alloc _) (w2.heap.size + 1) (some ⟨w2.heap.size, 0, none⟩) 1 1 [Value.int .u64 (x : Int)] rfl (Reads.one _ _ _ _ rfl) (by simp [Value.oneCell']) (by unfold maxLen; omega) (by omega) (by have := hchg.size; have := hc2.size; simp; omega) ?_; intro v3 w3 hown3 hgr hat))
                go_roundw
                case rel =>
                  have hbel : Chg (fun b => b = g ∨ w.heap.size ≤ b) w2 w3 := ((Chg.refl _ w2).alloc _).grown hgr fun b hb => .inl (.inr (hown.lt b hb).1)
                  have hne : ∀ b, b < w.heap.size → w3.heap[b]? = w2.heap[b]? := fun b hb => by
                    have h3 := hgr.block b (by have := hchg.size; have := hc2.size; simp; omega) (fun e => by have := (hown.lt b e.symm).1; omega)
                    rw [h3]
                    exact Below.heap_alloc _ _ _ (by have := hchg.size; have := hc2.size; omega)
                  refine ⟨k + 1, acc ++ [x], q2, by omega, by simp [Hak.out], by go_num, ?_, ?_, Hf3.out, ?_, HI.out (k + 1) w2 w3 (by have := hchg.size; have := hc2.size; omega) hi2 hbel, ?_, ?_⟩
                  · simpa using hown3
                  · exact ⟨(hne g h.blk.lt).trans h2.blk, h2.le, h2.len⟩
                  · exact ⟨hgr.os.trans (hc2.os.trans hchg.os), hgr.tape.trans (hc2.tape.trans hchg.tape), hgr.output.trans (hc2.output.trans hchg.output), by have z := hgr.size; simp at z; have := hchg.size; have := hc2.size; omega, fun b hb hn => (hne b hb).trans ((hc2.block b (by have := hchg.size; omega) hn).trans (hchg.block b hb hn))⟩
                  · have h4 := Hloop.out
                    rw [Hx.out, Hq2.out] at h4
                    rw [← h4]
                    congr 1
                    have := Hm.out
                    omega
                  · have h4 := Hcnt.out
                    rw [Hq2.out] at h4
                    have h5 := Hm.out
                    rw [show n - (k + 1) = m by omega]
                    omega
                case measure => simp [intOf]; omega
              · rw [Pk.Rd.loop_bad hbad] at hloop
                rw [Pk.Rd.count_bad hbad] at hcnt
                have Hloop := Lib.hid hloop
                have Hcnt := Lib.hid hcnt
                have Hbad := Lib.hid hbad
                clear hloop hcnt hbad
                go_wp2_with fail
                refine (Hstep.out _ hrd Hrf.out hik).mono ?_
                rintro e w2 ⟨rfl, h2, hs2, hc2, hi2⟩
                clear hs2
                go_wp2_with (go_at_call 70; refine (dead_yes g _ _ h2 Hbad.out).mono ?_; rintro e w' ⟨rfl, rfl⟩)
                go_ret
                unfold Pk.Rd.list
                rw [Hr.out]
                simp only
                rw [← Hloop.out, ← Hcnt.out]
                exact ⟨_, rfl, World.ownsRow_nil _ _ _ _, h2, hchg.trans hc2, hi2⟩
            · obtain rfl : k = n := by omega
              rw [Nat.sub_self] at hloop hcnt
              have Hloop := Lib.hid hloop
              have Hcnt := Lib.hid hcnt
              clear hloop hcnt
              go_wp2_with fail
              go_ret
              unfold Pk.Rd.list
              rw [Hr.out]
              simp only
              rw [← Hloop.out, ← Hcnt.out]
              exact ⟨_, rfl, hown, hrd, hchg, hik⟩
      · have Hr := Lib.hid (heads_bad Hf.out hf2)
        generalize r.free most.toNat = p at *
        obtain ⟨n, q⟩ := p
        simp only at *
        have Hf2 := Lib.hid hf2
        clear hf2 hs
        go_wp2_with (go_at_call 70; refine (dead_yes g q _ h1 Hf2.out).mono ?_; rintro e w' ⟨rfl, rfl⟩)
        go_ret
        unfold Pk.Rd.list
        rw [Hr.out]
        exact ⟨_, rfl, World.ownsRow_nil _ _ _ _, h1, hc1.mono fun _ _ h => .inl h, hi1⟩
  · have Hr := Lib.hid (heads_dead (most := most) hf)
    go_enter Try.func28, Try.ntmps28
    go_wp2_with (go_at_call 70; refine (dead_yes g r _ h hf).mono ?_; rintro e w' ⟨rfl, rfl⟩)
    go_ret
    unfold Pk.Rd.list
    rw [Hr.out]
    exact ⟨_, rfl, World.ownsRow_nil _ _ _ _, h, Chg.refl _ _, h0⟩

set_option maxHeartbeats 2000000 in
set_option maxRecDepth 100000 in
theorem list_string (step : Pk.Rd → (List UInt8) × Pk.Rd) (T : Nat → Prop) (I : Nat → World → Prop) (g F : Nat) (caps : Array Value) (most : Int) (r : Pk.Rd) (w : World)
    (h : IsR w g r) (hi : I64 most) (hlen : r.s.length ≤ 4398046511104) (h0 : I 0 w) (hT : ∀ b, T b → b < w.heap.size)
    (hI : ∀ k w1 w2, w.heap.size ≤ w1.heap.size → I k w1 → Chg (fun b => b = g ∨ w.heap.size ≤ b) w1 w2 → I k w2)
    (hF : ∀ (args : Array Value) (w : World), (callFunc F args).run Try.prog w = .ok (.enter F args) w)
    (hone : Reads1 (fun x : (List UInt8) => S x) step T I g F caps) :
    Calls Try.prog 68 #[.pointer (some ⟨g, 0, none⟩), .int .i64 most, .func (.func F) #[] caps] w fun e w' => ∃ v, e = .returned v ∧
      w'.ownsRow w.heap.size 9 1 v (r.list most step).1.length ((r.list most step).1.map fun x : (List UInt8) => S x) ∧ IsR w' g (r.list most step).2 ∧ Chg (fun b => b = g ∨ T b) w w' ∧ I (Pk.Rd.count step (r.heads most).1 (r.heads most).2) w' := by
  obtain ⟨i0, hi0, hz0, hz1, hz2⟩ := info_parts info_str
  have c2 := h.c2
  have le := h.le
  have hfn : ∀ w : World, (binOp .neq 109 (.func (.func F) #[] caps) .nilFunc).run Try.prog w = .ok (.bool true) w := fun _ => by kernel_rfl
  have Hone := Lib.hid hone
  have HI := Lib.hid hI
  have HT := Lib.hid hT
  clear hone hI hT
  by_cases hf : r.f = 0
  · have Hf := Lib.hid hf
    clear hf
    go_enter Try.func68, Try.ntmps68
    rcases (show most ≤ 0 ∨ 0 < most by omega) with hm | hm
    all_goals
      go_wp2_with (go_at_call 70; refine (dead_no g r _ h Hf.out).mono ?_; rintro e w' ⟨rfl, rfl⟩)
      refine (rfree_callsI g _ most.toNat r _ ?hmi h).mono ?_
      case hmi => first | omega | (unfold I64 at hi; rw [IntKind.wrap_u64]; omega)
      rintro e w1 ⟨rfl, h1, hc1⟩
      have hi1 : I 0 w1 := HI.out 0 w w1 (Nat.le_refl _) h0 (hc1.mono fun _ _ h => .inl h)
      have hs := rfree_s r most.toNat
      by_cases hf2 : (r.free most.toNat).2.f = 0
      · by_cases hl : (r.free most.toNat).2.left < (r.free most.toNat).1
        · have Hr := Lib.hid (heads_most Hf.out hf2 hl)
          generalize r.free most.toNat = p at *
          obtain ⟨n, q⟩ := p
          simp only at *
          have Hf2 := Lib.hid hf2
          have Hs := Lib.hid hs
          have hl' : q.left < n := hl
          have hql : q.left ≤ 140737488355328 := by have := h1.len; unfold Pk.Rd.left; omega
          clear hf2 hs
          go_wp2_with (first | (go_at_call 70; refine (dead_no g q _ h1 Hf2.out).mono ?_; rintro e w' ⟨rfl, rfl⟩) | (go_at_call 25; refine (left_calls g q _ h1).mono ?_; rintro e w' ⟨rfl, nq, rfl⟩) | (go_at_call 71; refine (fail_calls g q 12 12 r.pos _ rfl (h1.drewN nq) (by rw [Hs.out]; exact le)).mono ?_; rintro e w' ⟨rfl, hred⟩))
          go_ret
          unfold Pk.Rd.list
          rw [Hr.out]
          exact ⟨_, rfl, World.ownsRow_nil _ _ _ _, hred.1, ((hc1.drewN _).trans hred.2).mono fun _ _ h => .inl h, HI.out 0 w1 _ hc1.size hi1 ((((Chg.refl _ w1).drewN _).trans hred.2).mono fun _ _ h => .inl h)⟩
        · have Hr := Lib.hid (heads_of Hf.out hf2 (by omega))
          generalize r.free most.toNat = p at *
          obtain ⟨n, q⟩ := p
          simp only at *
          have Hf2 := Lib.hid hf2
          have Hs := Lib.hid hs
          have hl' : n ≤ q.left := by omega
          have hql : q.left ≤ 4398046511104 := by unfold Pk.Rd.left; rw [hs]; omega
          have hdec : decide (q.left < n) = false := by simp; omega
          clear hf2 hs hl
          go_wp2_with (first | (go_at_call 70; refine (dead_no g q _ h1 Hf2.out).mono ?_; rintro e w' ⟨rfl, rfl⟩) | (go_at_call 25; refine (left_calls g q _ h1).mono ?_; rintro e w' ⟨rfl, nq, rfl⟩))
          go_loopw [9, 10, 33] (fun lv _ iv wr => ∃ (k : Nat) (acc : List (List UInt8)) (rd : Pk.Rd), k ≤ n ∧ acc.length = k ∧ iv = .int .u64 k ∧ wr.ownsRow w.heap.size 9 1 lv acc.length (acc.map fun x : (List UInt8) => S x) ∧ IsR wr g rd ∧ rd.f = 0 ∧ Chg (fun b => b = g ∨ T b) w wr ∧ I k wr ∧
              Pk.Rd.loop step (n - k) acc rd = Pk.Rd.loop step n [] q ∧ k + Pk.Rd.count step (n - k) rd = Pk.Rd.count step n q) (fun _ _ iv _ => n - (intOf iv).toNat)
          case atStart => exact ⟨0, [], q, by omega, rfl, rfl, World.ownsRow_nil _ _ _ _, h1.drewN _, Hf2.out, (hc1.mono fun _ _ h => .inl h).drewN _, HI.out 0 w1 _ hc1.size hi1 ((Chg.refl _ w1).drewN _), rfl, by simp⟩
          case round =>
            obtain ⟨k, acc, rd, hk, hak, rfl, hown, hrd, hrf, hchg, hik, hloop, hcnt⟩ := hrel
            have Hak := Lib.hid hak
            have Hrf := Lib.hid hrf
            have hal : acc.length ≤ k := by omega
            clear hak hrf
            by_cases hp : k < n
            · obtain ⟨m, hm⟩ : ∃ m, n - k = m + 1 := ⟨n - k - 1, by omega⟩
              rw [hm] at hloop hcnt
              have Hm := Lib.hid hm
              clear hm
              have Hstep := Lib.hid (Hone.out k rd)
              by_cases hbad : (step rd).2.f = 0
              · rw [Pk.Rd.loop_good hbad] at hloop
                rw [Pk.Rd.count_good hbad] at hcnt
                have Hloop := Lib.hid hloop
                have Hcnt := Lib.hid hcnt
                have Hbad := Lib.hid hbad
                clear hloop hcnt hbad
                go_wp2_with fail
                refine (Hstep.out _ hrd Hrf.out hik).mono ?_
                rintro e w2 ⟨rfl, h2, hs2, hc2, hi2⟩
                have Hs2 := Lib.hid hs2
                clear hs2
                have hown2 := own_chg hown hc2 (fun b hb hs => by
                  have h3 := (hown.lt b hb).1
                  rcases hs with hs | hs
                  · have := h.blk.lt; omega
                  · have := HT.out b hs; omega)
                obtain ⟨x, hx⟩ : ∃ x, (step rd).1 = x := ⟨_, rfl⟩
                obtain ⟨q2, hq2⟩ : ∃ q2, (step rd).2 = q2 := ⟨_, rfl⟩
                rw [hx]
                rw [hq2] at h2
                have Hx := Lib.hid hx
                have Hq2 := Lib.hid hq2
                have Hf3 := Lib.hid (show q2.f = 0 by rw [← hq2]; exact Hbad.out)
                clear hx hq2
                go_wp2_with (first | (go_at_call 70; refine (dead_no g q2 _ h2 Hf3.out).mono ?_; rintro e w' ⟨rfl, rfl⟩) | (at_builtin; refine wpList_append_any _ rfl (.tmp 42) (.tmp 44) _ rfl w.heap.size 9 i0 _ 1 16 Try.underlying23 hi0 hz0 hz1 hz2 rfl (by omega) _ acc.length (acc.map fun x : (List UInt8) => S x) rfl (hown2.alloc _) (w2.heap.size + 1) (some ⟨w2.heap.size, 0, none⟩) 1 1 [S x] rfl (Reads.one _ _ _ _ rfl) (by simp [Value.oneCell']) (by unfold maxLen; omega) (by omega) (by have := hchg.size; have := hc2.size; simp; omega) ?_; intro v3 w3 hown3 hgr hat))
                go_roundw
                case rel =>
                  have hbel : Chg (fun b => b = g ∨ w.heap.size ≤ b) w2 w3 := ((Chg.refl _ w2).alloc _).grown hgr fun b hb => .inl (.inr (hown.lt b hb).1)
                  have hne : ∀ b, b < w.heap.size → w3.heap[b]? = w2.heap[b]? := fun b hb => by
                    have h3 := hgr.block b (by have := hchg.size; have := hc2.size; simp; omega) (fun e => by have := (hown.lt b e.symm).1; omega)
                    rw [h3]
                    exact Below.heap_alloc _ _ _ (by have := hchg.size; have := hc2.size; omega)
                  refine ⟨k + 1, acc ++ [x], q2, by omega, by simp [Hak.out], by go_num, ?_, ?_, Hf3.out, ?_, HI.out (k + 1) w2 w3 (by have := hchg.size; have := hc2.size; omega) hi2 hbel, ?_, ?_⟩
                  · simpa using hown3
                  · exact ⟨(hne g h.blk.lt).trans h2.blk, h2.le, h2.len⟩
                  · exact ⟨hgr.os.trans (hc2.os.trans hchg.os), hgr.tape.trans (hc2.tape.trans hchg.tape), hgr.output.trans (hc2.output.trans hchg.output), by have z := hgr.size; simp at z; have := hchg.size; have := hc2.size; omega, fun b hb hn => (hne b hb).trans ((hc2.block b (by have := hchg.size; omega) hn).trans (hchg.block b hb hn))⟩
                  · have h4 := Hloop.out
                    rw [Hx.out, Hq2.out] at h4
                    rw [← h4]
                    congr 1
                    have := Hm.out
                    omega
                  · have h4 := Hcnt.out
                    rw [Hq2.out] at h4
                    have h5 := Hm.out
                    rw [show n - (k + 1) = m by omega]
                    omega
                case measure => simp [intOf]; omega
              · rw [Pk.Rd.loop_bad hbad] at hloop
                rw [Pk.Rd.count_bad hbad] at hcnt
                have Hloop := Lib.hid hloop
                have Hcnt := Lib.hid hcnt
                have Hbad := Lib.hid hbad
                clear hloop hcnt hbad
                go_wp2_with fail
                refine (Hstep.out _ hrd Hrf.out hik).mono ?_
                rintro e w2 ⟨rfl, h2, hs2, hc2, hi2⟩
                clear hs2
                go_wp2_with (go_at_call 70; refine (dead_yes g _ _ h2 Hbad.out).mono ?_; rintro e w' ⟨rfl, rfl⟩)
                go_ret
                unfold Pk.Rd.list
                rw [Hr.out]
                simp only
                rw [← Hloop.out, ← Hcnt.out]
                exact ⟨_, rfl, World.ownsRow_nil _ _ _ _, h2, hchg.trans hc2, hi2⟩
            · obtain rfl : k = n := by omega
              rw [Nat.sub_self] at hloop hcnt
              have Hloop := Lib.hid hloop
              have Hcnt := Lib.hid hcnt
              clear hloop hcnt
              go_wp2_with fail
              go_ret
              unfold Pk.Rd.list
              rw [Hr.out]
              simp only
              rw [← Hloop.out, ← Hcnt.out]
              exact ⟨_, rfl, hown, hrd, hchg, hik⟩
      · have Hr := Lib.hid (heads_bad Hf.out hf2)
        generalize r.free most.toNat = p at *
        obtain ⟨n, q⟩ := p
        simp only at *
        have Hf2 := Lib.hid hf2
        clear hf2 hs
        go_wp2_with (go_at_call 70; refine (dead_yes g q _ h1 Hf2.out).mono ?_; rintro e w' ⟨rfl, rfl⟩)
        go_ret
        unfold Pk.Rd.list
        rw [Hr.out]
        exact ⟨_, rfl, World.ownsRow_nil _ _ _ _, h1, hc1.mono fun _ _ h => .inl h, hi1⟩
  · have Hr := Lib.hid (heads_dead (most := most) hf)
    go_enter Try.func68, Try.ntmps68
    go_wp2_with (go_at_call 70; refine (dead_yes g r _ h hf).mono ?_; rintro e w' ⟨rfl, rfl⟩)
    go_ret
    unfold Pk.Rd.list
    rw [Hr.out]
    exact ⟨_, rfl, World.ownsRow_nil _ _ _ _, h, Chg.refl _ _, h0⟩

set_option maxHeartbeats 2000000 in
set_option maxRecDepth 100000 in
theorem list_uint8 (step : Pk.Rd → UInt8 × Pk.Rd) (T : Nat → Prop) (I : Nat → World → Prop) (g F : Nat) (caps : Array Value) (most : Int) (r : Pk.Rd) (w : World)
    (h : IsR w g r) (hi : I64 most) (hlen : r.s.length ≤ 4398046511104) (h0 : I 0 w) (hT : ∀ b, T b → b < w.heap.size)
    (hI : ∀ k w1 w2, w.heap.size ≤ w1.heap.size → I k w1 → Chg (fun b => b = g ∨ w.heap.size ≤ b) w1 w2 → I k w2)
    (hF : ∀ (args : Array Value) (w : World), (callFunc F args).run Try.prog w = .ok (.enter F args) w)
    (hone : Reads1 (fun x : UInt8 => Value.int .u8 (x.toNat : Int)) step T I g F caps) :
    Calls Try.prog 102 #[.pointer (some ⟨g, 0, none⟩), .int .i64 most, .func (.func F) #[] caps] w fun e w' => ∃ v, e = .returned v ∧
      w'.ownsRow w.heap.size 5 1 v (r.list most step).1.length ((r.list most step).1.map fun x : UInt8 => Value.int .u8 (x.toNat : Int)) ∧ IsR w' g (r.list most step).2 ∧ Chg (fun b => b = g ∨ T b) w w' ∧ I (Pk.Rd.count step (r.heads most).1 (r.heads most).2) w' := by
  obtain ⟨i0, hi0, hz0, hz1, hz2⟩ := info_parts info_u8
  have c2 := h.c2
  have le := h.le
  have hfn : ∀ w : World, (binOp .neq 113 (.func (.func F) #[] caps) .nilFunc).run Try.prog w = .ok (.bool true) w := fun _ => by kernel_rfl
  have Hone := Lib.hid hone
  have HI := Lib.hid hI
  have HT := Lib.hid hT
  clear hone hI hT
  by_cases hf : r.f = 0
  · have Hf := Lib.hid hf
    clear hf
    go_enter Try.func102, Try.ntmps102
    rcases (show most ≤ 0 ∨ 0 < most by omega) with hm | hm
    all_goals
      go_wp2_with (go_at_call 70; refine (dead_no g r _ h Hf.out).mono ?_; rintro e w' ⟨rfl, rfl⟩)
      refine (rfree_callsI g _ most.toNat r _ ?hmi h).mono ?_
      case hmi => first | omega | (unfold I64 at hi; rw [IntKind.wrap_u64]; omega)
      rintro e w1 ⟨rfl, h1, hc1⟩
      have hi1 : I 0 w1 := HI.out 0 w w1 (Nat.le_refl _) h0 (hc1.mono fun _ _ h => .inl h)
      have hs := rfree_s r most.toNat
      by_cases hf2 : (r.free most.toNat).2.f = 0
      · by_cases hl : (r.free most.toNat).2.left < (r.free most.toNat).1
        · have Hr := Lib.hid (heads_most Hf.out hf2 hl)
          generalize r.free most.toNat = p at *
          obtain ⟨n, q⟩ := p
          simp only at *
          have Hf2 := Lib.hid hf2
          have Hs := Lib.hid hs
          have hl' : q.left < n := hl
          have hql : q.left ≤ 140737488355328 := by have := h1.len; unfold Pk.Rd.left; omega
          clear hf2 hs
          go_wp2_with (first | (go_at_call 70; refine (dead_no g q _ h1 Hf2.out).mono ?_; rintro e w' ⟨rfl, rfl⟩) | (go_at_call 25; refine (left_calls g q _ h1).mono ?_; rintro e w' ⟨rfl, nq, rfl⟩) | (go_at_call 71; refine (fail_calls g q 12 12 r.pos _ rfl (h1.drewN nq) (by rw [Hs.out]; exact le)).mono ?_; rintro e w' ⟨rfl, hred⟩))
          go_ret
          unfold Pk.Rd.list
          rw [Hr.out]
          exact ⟨_, rfl, World.ownsRow_nil _ _ _ _, hred.1, ((hc1.drewN _).trans hred.2).mono fun _ _ h => .inl h, HI.out 0 w1 _ hc1.size hi1 ((((Chg.refl _ w1).drewN _).trans hred.2).mono fun _ _ h => .inl h)⟩
        · have Hr := Lib.hid (heads_of Hf.out hf2 (by omega))
          generalize r.free most.toNat = p at *
          obtain ⟨n, q⟩ := p
          simp only at *
          have Hf2 := Lib.hid hf2
          have Hs := Lib.hid hs
          have hl' : n ≤ q.left := by omega
          have hql : q.left ≤ 4398046511104 := by unfold Pk.Rd.left; rw [hs]; omega
          have hdec : decide (q.left < n) = false := by simp; omega
          clear hf2 hs hl
          go_wp2_with (first | (go_at_call 70; refine (dead_no g q _ h1 Hf2.out).mono ?_; rintro e w' ⟨rfl, rfl⟩) | (go_at_call 25; refine (left_calls g q _ h1).mono ?_; rintro e w' ⟨rfl, nq, rfl⟩))
          go_loopw [9, 10, 33] (fun lv _ iv wr => ∃ (k : Nat) (acc : List UInt8) (rd : Pk.Rd), k ≤ n ∧ acc.length = k ∧ iv = .int .u64 k ∧ wr.ownsRow w.heap.size 5 1 lv acc.length (acc.map fun x : UInt8 => Value.int .u8 (x.toNat : Int)) ∧ IsR wr g rd ∧ rd.f = 0 ∧ Chg (fun b => b = g ∨ T b) w wr ∧ I k wr ∧
              Pk.Rd.loop step (n - k) acc rd = Pk.Rd.loop step n [] q ∧ k + Pk.Rd.count step (n - k) rd = Pk.Rd.count step n q) (fun _ _ iv _ => n - (intOf iv).toNat)
          case atStart => exact ⟨0, [], q, by omega, rfl, rfl, World.ownsRow_nil _ _ _ _, h1.drewN _, Hf2.out, (hc1.mono fun _ _ h => .inl h).drewN _, HI.out 0 w1 _ hc1.size hi1 ((Chg.refl _ w1).drewN _), rfl, by simp⟩
          case round =>
            obtain ⟨k, acc, rd, hk, hak, rfl, hown, hrd, hrf, hchg, hik, hloop, hcnt⟩ := hrel
            have Hak := Lib.hid hak
            have Hrf := Lib.hid hrf
            have hal : acc.length ≤ k := by omega
            clear hak hrf
            by_cases hp : k < n
            · obtain ⟨m, hm⟩ : ∃ m, n - k = m + 1 := ⟨n - k - 1, by omega⟩
              rw [hm] at hloop hcnt
              have Hm := Lib.hid hm
              clear hm
              have Hstep := Lib.hid (Hone.out k rd)
              by_cases hbad : (step rd).2.f = 0
              · rw [Pk.Rd.loop_good hbad] at hloop
                rw [Pk.Rd.count_good hbad] at hcnt
                have Hloop := Lib.hid hloop
                have Hcnt := Lib.hid hcnt
                have Hbad := Lib.hid hbad
                clear hloop hcnt hbad
                go_wp2_with fail
                refine (Hstep.out _ hrd Hrf.out hik).mono ?_
                rintro e w2 ⟨rfl, h2, hs2, hc2, hi2⟩
                have Hs2 := Lib.hid hs2
                clear hs2
                have hown2 := own_chg hown hc2 (fun b hb hs => by
                  have h3 := (hown.lt b hb).1
                  rcases hs with hs | hs
                  · have := h.blk.lt; omega
                  · have := HT.out b hs; omega)
                obtain ⟨x, hx⟩ : ∃ x, (step rd).1 = x := ⟨_, rfl⟩
                obtain ⟨q2, hq2⟩ : ∃ q2, (step rd).2 = q2 := ⟨_, rfl⟩
                rw [hx]
                rw [hq2] at h2
                have Hx := Lib.hid hx
                have Hq2 := Lib.hid hq2
                have Hf3 := Lib.hid (show q2.f = 0 by rw [← hq2]; exact Hbad.out)
                clear hx hq2
                go_wp2_with (first | (go_at_call 70; refine (dead_no g q2 _ h2 Hf3.out).mono ?_; rintro e w' ⟨rfl, rfl⟩) | (at_builtin; refine wpList_append_any _ rfl (.tmp 42) (.tmp 44) _ rfl w.heap.size 5 i0 _ 1 1 Try.underlying76 hi0 hz0 hz1 hz2 rfl (by omega) _ acc.length (acc.map fun x : UInt8 => Value.int .u8 (x.toNat : Int)) rfl (hown2.alloc _) (w2.heap.size + 1) (some ⟨w2.heap.size, 0, none⟩) 1 1 [Value.int .u8 (x.toNat : Int)] rfl (Reads.one _ _ _ _ rfl) (by simp [Value.oneCell']) (by unfold maxLen; omega) (by omega) (by have := hchg.size; have := hc2.size; simp; omega) ?_; intro v3 w3 hown3 hgr hat))
                go_roundw
                case rel =>
                  have hbel : Chg (fun b => b = g ∨ w.heap.size ≤ b) w2 w3 := ((Chg.refl _ w2).alloc _).grown hgr fun b hb => .inl (.inr (hown.lt b hb).1)
                  have hne : ∀ b, b < w.heap.size → w3.heap[b]? = w2.heap[b]? := fun b hb => by
                    have h3 := hgr.block b (by have := hchg.size; have := hc2.size; simp; omega) (fun e => by have := (hown.lt b e.symm).1; omega)
                    rw [h3]
                    exact Below.heap_alloc _ _ _ (by have := hchg.size; have := hc2.size; omega)
                  refine ⟨k + 1, acc ++ [x], q2, by omega, by simp [Hak.out], by go_num, ?_, ?_, Hf3.out, ?_, HI.out (k + 1) w2 w3 (by have := hchg.size; have := hc2.size; omega) hi2 hbel, ?_, ?_⟩
                  · simpa using hown3
                  · exact ⟨(hne g h.blk.lt).trans h2.blk, h2.le, h2.len⟩
                  · exact ⟨hgr.os.trans (hc2.os.trans hchg.os), hgr.tape.trans (hc2.tape.trans hchg.tape), hgr.output.trans (hc2.output.trans hchg.output), by have z := hgr.size; simp at z; have := hchg.size; have := hc2.size; omega, fun b hb hn => (hne b hb).trans ((hc2.block b (by have := hchg.size; omega) hn).trans (hchg.block b hb hn))⟩
                  · have h4 := Hloop.out
                    rw [Hx.out, Hq2.out] at h4
                    rw [← h4]
                    congr 1
                    have := Hm.out
                    omega
                  · have h4 := Hcnt.out
                    rw [Hq2.out] at h4
                    have h5 := Hm.out
                    rw [show n - (k + 1) = m by omega]
                    omega
                case measure => simp [intOf]; omega
              · rw [Pk.Rd.loop_bad hbad] at hloop
                rw [Pk.Rd.count_bad hbad] at hcnt
                have Hloop := Lib.hid hloop
                have Hcnt := Lib.hid hcnt
                have Hbad := Lib.hid hbad
                clear hloop hcnt hbad
                go_wp2_with fail
                refine (Hstep.out _ hrd Hrf.out hik).mono ?_
                rintro e w2 ⟨rfl, h2, hs2, hc2, hi2⟩
                clear hs2
                go_wp2_with (go_at_call 70; refine (dead_yes g _ _ h2 Hbad.out).mono ?_; rintro e w' ⟨rfl, rfl⟩)
                go_ret
                unfold Pk.Rd.list
                rw [Hr.out]
                simp only
                rw [← Hloop.out, ← Hcnt.out]
                exact ⟨_, rfl, World.ownsRow_nil _ _ _ _, h2, hchg.trans hc2, hi2⟩
            · obtain rfl : k = n := by omega
              rw [Nat.sub_self] at hloop hcnt
              have Hloop := Lib.hid hloop
              have Hcnt := Lib.hid hcnt
              clear hloop hcnt
              go_wp2_with fail
              go_ret
              unfold Pk.Rd.list
              rw [Hr.out]
              simp only
              rw [← Hloop.out, ← Hcnt.out]
              exact ⟨_, rfl, hown, hrd, hchg, hik⟩
      · have Hr := Lib.hid (heads_bad Hf.out hf2)
        generalize r.free most.toNat = p at *
        obtain ⟨n, q⟩ := p
        simp only at *
        have Hf2 := Lib.hid hf2
        clear hf2 hs
        go_wp2_with (go_at_call 70; refine (dead_yes g q _ h1 Hf2.out).mono ?_; rintro e w' ⟨rfl, rfl⟩)
        go_ret
        unfold Pk.Rd.list
        rw [Hr.out]
        exact ⟨_, rfl, World.ownsRow_nil _ _ _ _, h1, hc1.mono fun _ _ h => .inl h, hi1⟩
  · have Hr := Lib.hid (heads_dead (most := most) hf)
    go_enter Try.func102, Try.ntmps102
    go_wp2_with (go_at_call 70; refine (dead_yes g r _ h hf).mono ?_; rintro e w' ⟨rfl, rfl⟩)
    go_ret
    unfold Pk.Rd.list
    rw [Hr.out]
    exact ⟨_, rfl, World.ownsRow_nil _ _ _ _, h, Chg.refl _ _, h0⟩
end Go.Proofs.Ytkajbpdhglaieaa
