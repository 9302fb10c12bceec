/-
  pack.List at uint64 with no function: so many zeros.
-/
import Derived.Test.YtkajbpdhglaieaaList
namespace Go.Proofs.Ytkajbpdhglaieaa
open Go.RowKit
set_option linter.unusedVariables false

/-- so many zeros -/
def zeros (n : Nat) : List Value := List.replicate n (.int .u64 0)
theorem zeros_len (n : Nat) : (zeros n).length = n := by simp [zeros]
set_option maxHeartbeats 2000000 in
set_option maxRecDepth 100000 in
theorem list_nofn (g : Nat) (most : Int) (r : Pk.Rd) (w : World) (h : IsR w g r) (hi : I64 most) (hlen : r.s.length ≤ 4398046511104) (hf : r.f = 0) :
    Calls Try.prog 28 #[.pointer (some ⟨g, 0, none⟩), .int .i64 most, .nilFunc] w fun e w' => ∃ v, e = .returned v ∧
      w'.ownsRow w.heap.size 22 1 v (r.heads most).1 (zeros (r.heads most).1) ∧ IsR w' g (r.heads most).2 ∧ Chg (fun b => b = g) w w' := by
  obtain ⟨i0, hi0, hz0, hz1, hz2⟩ := info_parts info_u64
  have c2 := h.c2
  have le := h.le
  have hfn : ∀ w : World, (binOp .neq 55 .nilFunc .nilFunc).run Try.prog w = .ok (.bool false) w := fun _ => by kernel_rfl
  have Hf := Lib.hid hf
  clear hf
  go_enter Try.func28, Try.ntmps28
  rcases (show most ≤ 0 ∨ 0 < most by omega) with hm | hm
  all_goals
    go_wp2_with (go_at_call 70; refine (dead_no g r _ h Hf.out).mono ?_; rintro e w' ⟨rfl, rfl⟩)
    refine (rfree_callsI g _ most.toNat r _ ?hmi h).mono ?_
    case hmi => first | omega | (unfold I64 at hi; rw [IntKind.wrap_u64]; omega)
    rintro e w1 ⟨rfl, h1, hc1⟩
    have hs := rfree_s r most.toNat
    by_cases hf2 : (r.free most.toNat).2.f = 0
    · by_cases hl : (r.free most.toNat).2.left < (r.free most.toNat).1
      · have Hr := Lib.hid (heads_most Hf.out hf2 hl)
        generalize r.free most.toNat = p at *
        obtain ⟨n, q⟩ := p
        simp only at *
        have Hf2 := Lib.hid hf2
        have Hs := Lib.hid hs
        have hl' : q.left < n := hl
        have hql : q.left ≤ 140737488355328 := by have := h1.len; unfold Pk.Rd.left; omega
        clear hf2 hs
        go_wp2_with (first | (go_at_call 70; refine (dead_no g q _ h1 Hf2.out).mono ?_; rintro e w' ⟨rfl, rfl⟩) | (go_at_call 25; refine (left_calls g q _ h1).mono ?_; rintro e w' ⟨rfl, nq, rfl⟩) | (go_at_call 71; refine (fail_calls g q 12 12 r.pos _ rfl (h1.drewN nq) (by rw [Hs.out]; exact le)).mono ?_; rintro e w' ⟨rfl, hred⟩))
        go_ret
        rw [Hr.out]
        exact ⟨_, rfl, World.ownsRow_nil _ _ _ _, hred.1, (hc1.drewN _).trans hred.2⟩
      · have Hr := Lib.hid (heads_of Hf.out hf2 (by omega))
        generalize r.free most.toNat = p at *
        obtain ⟨n, q⟩ := p
        simp only at *
        have Hf2 := Lib.hid hf2
        have Hs := Lib.hid hs
        have hl' : n ≤ q.left := by omega
        have hql : q.left ≤ 4398046511104 := by unfold Pk.Rd.left; rw [hs]; omega
        have hdec : decide (q.left < n) = false := by simp; omega
        clear hf2 hs hl
        go_wp2_with (first | (go_at_call 70; refine (dead_no g q _ h1 Hf2.out).mono ?_; rintro e w' ⟨rfl, rfl⟩) | (go_at_call 25; refine (left_calls g q _ h1).mono ?_; rintro e w' ⟨rfl, nq, rfl⟩))
        go_loopw [9, 10, 33] (fun lv _ iv wr => ∃ k : Nat, k ≤ n ∧ iv = .int .u64 k ∧ wr.ownsRow w.heap.size 22 1 lv k (zeros k) ∧ IsR wr g q ∧ Chg (fun b => b = g) w wr) (fun _ _ iv _ => n - (intOf iv).toNat)
        case atStart => exact ⟨0, by omega, rfl, World.ownsRow_nil _ _ _ _, h1.drewN _, hc1.drewN _⟩
        case round =>
          obtain ⟨k, hk, rfl, hown, hrd, hchg⟩ := hrel
          by_cases hp : k < n
          · go_wp2_with (first | (go_at_call 70; refine (dead_no g q _ hrd Hf2.out).mono ?_; rintro e w' ⟨rfl, rfl⟩) | (at_builtin; refine wpList_append_any _ rfl (.tmp 42) (.tmp 44) _ rfl w.heap.size 22 i0 _ 1 8 Try.underlying37 hi0 hz0 hz1 hz2 rfl (by omega) _ k (zeros k) rfl (hown.alloc _) (wr.heap.size + 1) (some ⟨wr.heap.size, 0, none⟩) 1 1 [Value.int .u64 0] rfl (Reads.one _ _ _ _ rfl) (by simp [Value.oneCell']) (by unfold maxLen; omega) (by omega) (by have := hchg.size; simp; omega) ?_; intro v3 w3 hown3 hgr hat))
            go_roundw
            case rel =>
              have hne : ∀ b, b < w.heap.size → w3.heap[b]? = wr.heap[b]? := fun b hb => by
                have h3 := hgr.block b (by have := hchg.size; simp; omega) (fun e => by have := (hown.lt b e.symm).1; omega)
                rw [h3]
                exact Below.heap_alloc _ _ _ (by have := hchg.size; omega)
              refine ⟨k + 1, by omega, by go_num, ?_, ?_, ?_⟩
              · have e : zeros (k + 1) = zeros k ++ [Value.int .u64 0] := by unfold zeros; rw [List.replicate_succ']
                rw [e]
                simpa using hown3
              · exact ⟨(hne g h.blk.lt).trans hrd.blk, hrd.le, hrd.len⟩
              · exact ⟨hgr.os.trans hchg.os, hgr.tape.trans hchg.tape, hgr.output.trans hchg.output, by have z := hgr.size; simp at z; have := hchg.size; omega, fun b hb hn => (hne b hb).trans (hchg.block b hb hn)⟩
            case measure => simp [intOf]; omega
          · obtain rfl : k = n := by omega
            go_wp2_with fail
            go_ret
            rw [Hr.out]
            exact ⟨_, rfl, hown, hrd, hchg⟩
    · have Hr := Lib.hid (heads_bad Hf.out hf2)
      generalize r.free most.toNat = p at *
      obtain ⟨n, q⟩ := p
      simp only at *
      have Hf2 := Lib.hid hf2
      clear hf2 hs
      go_wp2_with (go_at_call 70; refine (dead_yes g q _ h1 Hf2.out).mono ?_; rintro e w' ⟨rfl, rfl⟩)
      go_ret
      rw [Hr.out]
      exact ⟨_, rfl, World.ownsRow_nil _ _ _ _, h1, hc1⟩
end Go.Proofs.Ytkajbpdhglaieaa
