/-
  Layer 6: which frames and records may be: the program's right, wide, Cut, Fits, Check; the document's MayFrame, place, May, Check.
-/
import Derived.Test.YtlhdbkbgedlmnaaDoorAgg
import Derived.Test.YtlhdbkbgedlmnaaDoorMt
import Derived.Test.YtlhdbkbgedlmnaaDoorRdig
namespace Go.Proofs.YtlhdbkbgedlmnaaDoor
open Go.RowKit
set_option linter.unusedVariables false

/-- a frame as a value -/
abbrev FV (f : Mt.F) : Value := .agg #[.int .i64 f.page, .int .i64 f.width]
/-- a record's cells -/
def mcells (m : Mt.M) : Array Value := (([.int .u64 m.ver, .int .u32 m.page] : List Value) ++ bys m.sum ++ ([.int .u64 m.cnt, .int .u64 m.rver, .int .u32 m.list, .int .u32 m.pages] : List Value)).toArray
theorem mcells_size (m : Mt.M) (h : m.sum.length = 32) : (mcells m).size = 38 := by simp [mcells, bys, h]
theorem mcells_one (m : Mt.M) : (mcells m).all (·.oneCell') = true := by
  rw [Array.all_eq_true_iff_forall_mem]
  intro v hv
  simp only [mcells, List.mem_toArray, List.mem_append, List.mem_cons, List.not_mem_nil, or_false] at hv
  rcases hv with ((rfl | rfl) | hv) | (rfl | rfl | rfl | rfl)
  all_goals first | rfl | exact bys_one _ v hv
structure MCells (w : World) (g off : Nat) (m : Mt.M) : Prop where
  c0 : w.cell? ⟨g, off, none⟩ = some (.int .u64 m.ver)
  c1 : w.cell? ⟨g, off + 1, none⟩ = some (.int .u32 m.page)
  sum : ∀ j b, m.sum[j]? = some b → w.cell? ⟨g, off + 2 + j, none⟩ = some (.int .u8 b.toNat)
  c34 : w.cell? ⟨g, off + 34, none⟩ = some (.int .u64 m.cnt)
  c35 : w.cell? ⟨g, off + 35, none⟩ = some (.int .u64 m.rver)
  c36 : w.cell? ⟨g, off + 36, none⟩ = some (.int .u32 m.list)
  c37 : w.cell? ⟨g, off + 37, none⟩ = some (.int .u32 m.pages)
theorem mcells_at (m : Mt.M) (h : m.sum.length = 32) : (mcells m)[0]? = some (.int .u64 m.ver) ∧ (mcells m)[1]? = some (.int .u32 m.page) ∧ (∀ (j : Nat) (b : UInt8), m.sum[j]? = some b → (mcells m)[2 + j]? = some (.int .u8 b.toNat)) ∧
    (mcells m)[34]? = some (.int .u64 m.cnt) ∧ (mcells m)[35]? = some (.int .u64 m.rver) ∧ (mcells m)[36]? = some (.int .u32 m.list) ∧ (mcells m)[37]? = some (.int .u32 m.pages) := by
  have hb : (bys m.sum).length = 32 := by rw [bys_length, h]
  have key : ∀ k, k < 4 → (mcells m)[34 + k]? = ([.int .u64 m.cnt, .int .u64 m.rver, .int .u32 m.list, .int .u32 m.pages] : List Value)[k]? := fun k hk => by
    unfold mcells
    rw [List.getElem?_toArray, List.getElem?_append_right (by simp [hb])]
    congr 1
    simp [hb]
  refine ⟨rfl, rfl, fun j b hj => ?_, key 0 (by omega), key 1 (by omega), key 2 (by omega), key 3 (by omega)⟩
  have hjl : j < m.sum.length := (List.getElem?_eq_some_iff.1 hj).1
  unfold mcells
  rw [List.getElem?_toArray, List.getElem?_append_left (by simp [hb]; omega), List.getElem?_append_right (by simp)]
  simp [bys, hj]
theorem MCells.of_blk {w : World} {g : Nat} {t : TypeId} {m : Mt.M} (h : Blk w g t (mcells m)) (hs : m.sum.length = 32) : MCells w g 0 m := by
  obtain ⟨a, b, c, d, e, f, i⟩ := mcells_at m hs
  exact ⟨by rw [h.cell]; exact a, by rw [h.cell]; exact b, fun j x hj => by rw [Nat.zero_add, h.cell]; exact c j x hj, by rw [h.cell]; exact d, by rw [h.cell]; exact e, by rw [h.cell]; exact f, by rw [h.cell]; exact i⟩
theorem ldM_eq (v : Value) : Instr.loadAt 31 v = ldAgg 31 v := rfl
theorem size_meta : (Tryd.prog.info? 31).map (·.size) = some 38 := by kernel_rfl
theorem ldM_of {w : World} {g : Nat} {t : TypeId} {m : Mt.M} (h : Blk w g t (mcells m)) (hs : m.sum.length = 32) : (ldAgg 31 (.pointer (some ⟨g, 0, none⟩))).run Tryd.prog w = .ok (.agg (mcells m)) w :=
  ldAgg_of Tryd.underlying31 rfl (by rw [mcells_size m hs]; exact size_meta) (fun j v hj => by rw [Nat.zero_add, h.cell]; exact hj)

set_option maxHeartbeats 1000000 in
set_option maxRecDepth 100000 in
theorem right_calls (p wd : Int) (w : World) : Calls Tryd.prog 23 #[.agg #[.int .i64 p, .int .i64 wd]] w fun e w' => e = .returned (.bool (Mt.mayF ⟨p, wd⟩)) ∧ Chg (fun _ => False) w w' := by
  have hw : wd < 1 ∨ (1 ≤ wd ∧ wd ≤ 32) ∨ 32 < wd := by omega
  by_cases hp : p = 1024 ∨ p = 2048 ∨ p = 4096 ∨ p = 8192
  · rcases hp with rfl | rfl | rfl | rfl <;> rcases hw with hw | ⟨hw, hw'⟩ | hw
    all_goals
      go_enter Tryd.func23, Tryd.ntmps23
      go_wp2_with fail
      go_ret
      exact ⟨ret_bool (by unfold Mt.mayF; simp; try omega), (Chg.refl _ w).alloc _⟩
  · have q1 : (p == 1024) = false := by rw [beq_eq_false_iff_ne]; omega
    have q2 : (p == 2048) = false := by rw [beq_eq_false_iff_ne]; omega
    have q3 : (p == 4096) = false := by rw [beq_eq_false_iff_ne]; omega
    have q4 : (p == 8192) = false := by rw [beq_eq_false_iff_ne]; omega
    have hm : Mt.mayF ⟨p, wd⟩ = false := by unfold Mt.mayF; simp only [decide_eq_false_iff_not]; intro h; exact hp h.1
    have Hm := Lib.hid hm
    clear hm hp
    go_enter Tryd.func23, Tryd.ntmps23
    go_wp2_with fail
    go_ret
    exact ⟨ret_bool Hm.out.symm, (Chg.refl _ w).alloc _⟩
set_option maxHeartbeats 1000000 in
set_option maxRecDepth 100000 in
theorem mayframe_calls (p wd : Int) (w : World) : Calls Tryd.prog 25 #[.agg #[.int .i64 p, .int .i64 wd]] w fun e w' => e = .returned (.bool (Mt.mayF ⟨p, wd⟩)) ∧ Chg (fun _ => False) w w' := by
  have hw : wd < 1 ∨ (1 ≤ wd ∧ wd ≤ 32) ∨ 32 < wd := by omega
  by_cases hp : p = 1024 ∨ p = 2048 ∨ p = 4096 ∨ p = 8192
  · rcases hp with rfl | rfl | rfl | rfl <;> rcases hw with hw | ⟨hw, hw'⟩ | hw
    all_goals
      go_enter Tryd.func25, Tryd.ntmps25
      go_wp2_with fail
      go_ret
      exact ⟨ret_bool (by unfold Mt.mayF; simp; try omega), (Chg.refl _ w).alloc _⟩
  · have q1 : (p == 1024) = false := by rw [beq_eq_false_iff_ne]; omega
    have q2 : (p == 2048) = false := by rw [beq_eq_false_iff_ne]; omega
    have q3 : (p == 4096) = false := by rw [beq_eq_false_iff_ne]; omega
    have q4 : (p == 8192) = false := by rw [beq_eq_false_iff_ne]; omega
    have hm : Mt.mayF ⟨p, wd⟩ = false := by unfold Mt.mayF; simp only [decide_eq_false_iff_not]; intro h; exact hp h.1
    have Hm := Lib.hid hm
    clear hm hp
    go_enter Tryd.func25, Tryd.ntmps25
    go_wp2_with fail
    go_ret
    exact ⟨ret_bool Hm.out.symm, (Chg.refl _ w).alloc _⟩

set_option maxHeartbeats 1000000 in
set_option maxRecDepth 100000 in
theorem placeR_calls (n p : Nat) (w : World) : Calls Tryd.prog 36 #[.int .u32 n, .int .u32 p] w fun e w' => e = .returned (.bool (Mt.place n p)) ∧ w = w' := by
  rcases (show n = 0 ∨ (0 < n ∧ n < 2) ∨ (2 ≤ n ∧ n < p) ∨ (2 ≤ n ∧ p ≤ n) by omega) with h | ⟨h, h'⟩ | ⟨h, h'⟩ | ⟨h, h'⟩
  · subst h
    go_enter Tryd.func36, Tryd.ntmps36
    go_wp2_with fail
    go_ret
    exact ⟨ret_bool (by unfold Mt.place; simp), rfl⟩
  all_goals
    have h0 : ((n : Int) == 0) = false := by rw [beq_eq_false_iff_ne]; omega
    go_enter Tryd.func36, Tryd.ntmps36
    go_wp2_with fail
    go_ret
    exact ⟨ret_bool (by unfold Mt.place; rw [Bool.eq_iff_iff]; simp; try omega), rfl⟩
set_option maxHeartbeats 1000000 in
set_option maxRecDepth 100000 in
theorem placeP_calls (n p g : Nat) (w : World) (hc : w.cell? ⟨g, 37, none⟩ = some (.int .u32 p)) : Calls Tryd.prog 22 #[.int .u32 n, .pointer (some ⟨g, 0, none⟩)] w fun e w' => e = .returned (.bool (Mt.place n p)) ∧ w = w' := by
  rcases (show n = 0 ∨ (0 < n ∧ n < 2) ∨ (2 ≤ n ∧ n < p) ∨ (2 ≤ n ∧ p ≤ n) by omega) with h | ⟨h, h'⟩ | ⟨h, h'⟩ | ⟨h, h'⟩
  · subst h
    go_enter Tryd.func22, Tryd.ntmps22
    go_wp2_with fail
    go_ret
    exact ⟨ret_bool (by unfold Mt.place; simp), rfl⟩
  all_goals
    have h0 : ((n : Int) == 0) = false := by rw [beq_eq_false_iff_ne]; omega
    go_enter Tryd.func22, Tryd.ntmps22
    go_wp2_with fail
    go_ret
    exact ⟨ret_bool (by unfold Mt.place; rw [Bool.eq_iff_iff]; simp; try omega), rfl⟩
end Go.Proofs.YtlhdbkbgedlmnaaDoor
