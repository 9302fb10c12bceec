/-
  pack.Reader: Fault and End.
-/
import Derived.Test.YtkajbpdhglaieaaRraw
import Derived.BigRegion
namespace Go.Proofs.Ytkajbpdhglaieaa
open Go.RowKit
set_option linter.unusedVariables false

/-- v is a new Fault of that number and place. -/
def IsFault (w w' : World) (v : Value) (c p : Nat) : Prop := ∃ g, v = .pointer (some ⟨g, 0, none⟩) ∧ Blk w' g 111 #[.int .i64 c, .int .i64 p] ∧ Chg (fun _ => False) w w' ∧ w.heap.size ≤ g

set_option maxHeartbeats 1000000 in
set_option maxRecDepth 100000 in
theorem fault_no (g : Nat) (r : Pk.Rd) (w : World) (h : IsR w g r) (hf : r.f = 0) :
    Calls Try.prog 24 #[.pointer (some ⟨g, 0, none⟩)] w fun e w' => e = .returned (.pointer none) ∧ w = w' := by
  have c3 : w.cell? ⟨g, 3, none⟩ = some (.int .i64 0) := by rw [h.c3, hf]; rfl
  clear hf
  go_enter Try.func24, Try.ntmps24
  go_wp2_with fail
  go_ret
  exact ⟨rfl, rfl⟩
set_option maxHeartbeats 1000000 in
set_option maxRecDepth 100000 in
theorem fault_yes (g : Nat) (r : Pk.Rd) (w : World) (h : IsR w g r) (hf : r.f ≠ 0) :
    Calls Try.prog 24 #[.pointer (some ⟨g, 0, none⟩)] w fun e w' => ∃ v, e = .returned v ∧ IsFault w w' v r.f r.pos := by
  have c2 := h.c2
  have c3 := h.c3
  have hne : ((r.f : Int) == 0) = false := by simpa using hf
  clear hf
  go_enter Try.func24, Try.ntmps24
  go_wp2_with fail
  go_region
  all_goals
    go_wp2_with fail
    go_ret
    refine ⟨_, rfl, _, rfl, ?_, ?_, ?_⟩
    · exact (Blk.new w _ _).drew
    · exact ((Chg.refl _ _).alloc _).drew
    · exact Nat.le_refl _

set_option maxHeartbeats 1000000 in
set_option maxRecDepth 100000 in
theorem end_fault (g : Nat) (r : Pk.Rd) (w : World) (h : IsR w g r) (hf : r.f ≠ 0) :
    Calls Try.prog 36 #[.pointer (some ⟨g, 0, none⟩)] w fun e w' => ∃ v, e = .returned (.iface 49 v) ∧ IsFault w w' v r.f r.pos := by
  have c0 := h.c0
  go_enter Try.func36, Try.ntmps36
  go_wp2_with fail
  refine (fault_yes g r _ h hf).mono ?_
  rintro e w1 ⟨v, rfl, g1, rfl, hb1, hc1, hg1⟩
  go_wp2_with fail
  go_ret
  exact ⟨_, rfl, g1, rfl, hb1, hc1, hg1⟩
set_option maxHeartbeats 1000000 in
set_option maxRecDepth 100000 in
theorem end_rest (g : Nat) (r : Pk.Rd) (w : World) (h : IsR w g r) (hf : r.f = 0) (hl : 0 < r.left) :
    Calls Try.prog 36 #[.pointer (some ⟨g, 0, none⟩)] w fun e w' => ∃ v, e = .returned (.iface 49 v) ∧ IsFault w w' v 13 r.pos := by
  have c0 := h.c0
  have c2 := h.c2
  have Hf := Lib.hid hf
  clear hf
  go_enter Try.func36, Try.ntmps36
  go_wp2_with fail
  refine (fault_no g r _ h Hf.out).mono ?_
  rintro e w1 ⟨rfl, rfl⟩
  go_wp2_with (go_at_call 25; refine (left_calls g r _ h).mono ?_; rintro e w' ⟨rfl, nq, rfl⟩)
  go_ret
  exact ⟨_, rfl, _, rfl, Blk.new _ _ _, ((Chg.refl _ _).drewN _).alloc _, Nat.le_refl _⟩
set_option maxHeartbeats 1000000 in
set_option maxRecDepth 100000 in
theorem end_none (g : Nat) (r : Pk.Rd) (w : World) (h : IsR w g r) (hf : r.f = 0) (hl : r.left = 0) :
    Calls Try.prog 36 #[.pointer (some ⟨g, 0, none⟩)] w fun e w' => e = .returned .nilIface ∧ ∃ n, w' = w.drewN n := by
  have c0 := h.c0
  have Hf := Lib.hid hf
  have hl' : r.left ≤ 0 := by omega
  clear hf hl
  go_enter Try.func36, Try.ntmps36
  go_wp2_with fail
  refine (fault_no g r _ h Hf.out).mono ?_
  rintro e w1 ⟨rfl, rfl⟩
  go_wp2_with (go_at_call 25; refine (left_calls g r _ h).mono ?_; rintro e w' ⟨rfl, nq, rfl⟩)
  go_ret
  exact ⟨rfl, _, rfl⟩
end Go.Proofs.Ytkajbpdhglaieaa
