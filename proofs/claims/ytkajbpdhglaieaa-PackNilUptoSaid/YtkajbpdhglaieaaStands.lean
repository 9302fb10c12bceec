/-
  heartwoodlaw01.stands: the program's reader is where the document's is, with its fault.
-/
import Derived.Test.YtkajbpdhglaieaaMr
namespace Go.Proofs.Ytkajbpdhglaieaa
open Go.RowKit
set_option linter.unusedVariables false

set_option maxHeartbeats 2000000 in
set_option maxRecDepth 100000 in
theorem stands_calls (g h : Nat) (r : Pk.Rd) (w : World) (hr : IsR w g r) (hm : IsM w h r) :
    Calls Try.prog 40 #[.pointer (some ⟨g, 0, none⟩), .pointer (some ⟨h, 0, none⟩)] w fun e w' => e = .returned (.bool true) ∧ Chg (fun _ => False) w w' := by
  have d1 := hm.c1
  by_cases hf : r.f = 0
  · have d2 : w.cell? ⟨h, 2, none⟩ = some (.int .i64 0) := by rw [hm.c2, hf]; rfl
    have Hf := Lib.hid hf
    clear hf
    go_enter Try.func40, Try.ntmps40
    go_wp2_with fail
    go_quiet (first | (go_at_call 22; exact Calls.quiet_of_same ((at_calls g r _ (hr.drewN _)).mono fun _ _ ⟨a, b⟩ => ⟨a, b.symm⟩)) | (go_at_call 25; exact Calls.quiet_of (left_calls g r _ (hr.drewN _))) | (go_at_call 37; exact Calls.quiet_of (mleft_calls h r _ (hm.drewN _))))
    go_wp2_with fail
    refine (fault_no g r _ (hr.drewN _) Hf.out).mono ?_
    rintro e w' ⟨rfl, rfl⟩
    go_wp2_with fail
    go_ret
    exact ⟨rfl, (Chg.refl _ w).drewN _⟩
  · have d2 := hm.c2
    have hne : ((r.f : Int) == 0) = false := by rw [beq_eq_false_iff_ne]; omega
    have Hf := Lib.hid hf
    clear hf
    go_enter Try.func40, Try.ntmps40
    go_wp2_with fail
    go_quiet (first | (go_at_call 22; exact Calls.quiet_of_same ((at_calls g r _ (hr.drewN _)).mono fun _ _ ⟨a, b⟩ => ⟨a, b.symm⟩)) | (go_at_call 25; exact Calls.quiet_of (left_calls g r _ (hr.drewN _))) | (go_at_call 37; exact Calls.quiet_of (mleft_calls h r _ (hm.drewN _))))
    go_wp2_with fail
    refine (fault_yes g r _ (hr.drewN _) Hf.out).mono ?_
    rintro e w1 ⟨_, rfl, f1, rfl, hb1, hc1, hz1⟩
    have hr1 := (hr.drewN nq).chg hc1 (fun h => h)
    have hm1 := (hm.drewN nq).chg hc1 (fun h => h)
    have d1 := hm1.c1
    have d2 := hm1.c2
    have e0 : w1.cell? ⟨f1, 0, none⟩ = some (.int .i64 r.f) := by rw [hb1.cell]; rfl
    have e1 : w1.cell? ⟨f1, 1, none⟩ = some (.int .i64 r.pos) := by rw [hb1.cell]; rfl
    have z0 := hb1.frozen 0
    have z1 := hb1.frozen 1
    have hgt : f1 ≠ g := by have := hr.blk.lt; simp at hz1; omega
    have hgm : f1 ≠ h := by have := hm.blk.lt; simp at hz1; omega
    have Hgt := Lib.hid (And.intro hgt hgm)
    clear hgt hgm
    go_wp2_with fail
    go_quiet (fail)
    go_wp2_with fail
    have hc2 : Chg (fun _ => False) w (((w1.drewN nq).setCell ⟨f1, 1, none⟩ (.int .i64 (-5))).setCell ⟨f1, 0, none⟩ (.int .i64 0)) := by
      have hz : w.heap.size ≤ f1 := by simpa using hz1
      exact (((((Chg.refl (fun _ => False) w).drewN _).trans hc1).drewN _).setCell (p := ⟨f1, 1, none⟩) (.inr hz) _).setCell (p := ⟨f1, 0, none⟩) (.inr hz) _
    have hr2 := hr.chg hc2 (fun h => h)
    have hm2 := hm.chg hc2 (fun h => h)
    refine (fault_yes g r _ hr2 Hf.out).mono ?_
    rintro e w2 ⟨_, rfl, f2, rfl, hb2, hc3, hz2⟩
    have hm3 := hm2.chg hc3 (fun h => h)
    have d1 := hm3.c1
    have d2 := hm3.c2
    have e0 : w2.cell? ⟨f2, 0, none⟩ = some (.int .i64 r.f) := by rw [hb2.cell]; rfl
    have e1 : w2.cell? ⟨f2, 1, none⟩ = some (.int .i64 r.pos) := by rw [hb2.cell]; rfl
    go_wp2_with fail
    go_quiet (fail)
    go_wp2_with fail
    go_ret
    exact ⟨rfl, (hc2.trans hc3).drewN _⟩
end Go.Proofs.Ytkajbpdhglaieaa
