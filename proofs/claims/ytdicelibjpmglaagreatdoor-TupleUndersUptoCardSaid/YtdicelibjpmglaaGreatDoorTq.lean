/-
  Layer 3: the program's source of bytes: gulp.
-/
import Derived.Test.YtdicelibjpmglaaGreatDoorTo
namespace Go.Proofs.YtdicelibjpmglaaGreatDoor
open Go.RowKit
set_option linter.unusedVariables false
set_option linter.unusedSimpArgs false
attribute [local go_sem] run_store_float
open Tp (It)

/-- block g is a source: these bytes are left, and so many items were read; the bytes lie below g -/
def Src (w : World) (g : Nat) (rest : List UInt8) (it : Nat) : Prop :=
  ∃ A cap, Blk w g 53 #[.slice A rest.length cap, .int .i64 it] ∧ Reads w g 1 A rest.length (bys rest) ∧ rest.length ≤ cap ∧ cap ≤ maxLen

theorem Reads.take1 {w : World} {B n k : Nat} {A : Option Addr} {l : List UInt8} (h : Reads w B 1 A n (bys l)) (hk : k ≤ n) : Reads w B 1 A k (bys (l.take k)) := by
  have hl : l.length = n := by have := h.1; simpa [bys_length] using this
  refine ⟨by rw [bys_length, List.length_take]; omega, fun h0 => ?_⟩
  obtain ⟨ad, e, hb, hc⟩ := h.2 (by omega)
  refine ⟨ad, e, hb, fun j u hu => hc j u ?_⟩
  have hj : j < k := by have := (List.getElem?_eq_some_iff.1 hu).1; rw [bys_length, List.length_take] at this; omega
  rw [← hu]
  simp only [bys, List.getElem?_map, List.getElem?_take, if_pos hj]
theorem Src.alloc {w : World} {g it : Nat} {rest : List UInt8} (h : Src w g rest it) (hg : g < w.heap.size) (o : Obj) : Src (w.alloc o) g rest it := by
  obtain ⟨A, cap, hb, hr, hc⟩ := h
  exact ⟨A, cap, hb.alloc _, hr.alloc (by omega) _, hc⟩
theorem Src.keep {S : Nat → Prop} {w w' : World} {g it : Nat} {rest : List UInt8} (h : Src w g rest it) (hc : Chg S w w') (hS : ∀ k, k ≤ g → ¬ S k := by intro _ _ h; exact h) : Src w' g rest it := by
  obtain ⟨A, cap, hb, hr, hcc⟩ := h
  have hl := hb.lt
  exact ⟨A, cap, hb.chg hc (hS g (Nat.le_refl _)), hr.keep fun p hp => hc.cell (by omega) (hS _ (by omega)), hcc⟩
theorem Src.far {w : World} {g it : Nat} {rest : List UInt8} (h : Src w g rest it) {p : Addr} (hp : g < p.block) (u : Value) : Src (w.setCell p u) g rest it := by
  obtain ⟨A, cap, hb, hr, hc⟩ := h
  exact ⟨A, cap, hb.far (by omega) _, hr.setCell (by omega) _, hc⟩
theorem Src.cut {w : World} {g it n cap : Nat} {A : Option Addr} {rest : List UInt8} (hb : Blk w g 53 #[.slice A rest.length cap, .int .i64 it]) (hr : Reads w g 1 A rest.length (bys rest)) (hn : n ≤ rest.length) (hc1 : rest.length ≤ cap) (hc2 : cap ≤ maxLen) :
    Src (w.setCell ⟨g, 0, none⟩ (.slice (if cap = n then A else A.map (·.add n)) (rest.length - n) (cap - n))) g (rest.drop n) it := by
  have h1 := (hr.cut hn hc1).setCell (p := ⟨g, 0, none⟩) (Nat.le_refl _) (.slice (if cap = n then A else A.map (·.add n)) (rest.length - n) (cap - n))
  rw [Nat.mul_one] at h1
  refine ⟨(if cap = n then A else A.map (·.add n)), cap - n, ?_, ?_, by rw [List.length_drop]; omega, by omega⟩
  · have := hb.set_ 0 (.slice (if cap = n then A else A.map (·.add n)) (rest.length - n) (cap - n))
    rw [List.length_drop]
    exact this
  · rw [List.length_drop, show bys (rest.drop n) = (bys rest).drop n by simp [bys]]
    exact h1

set_option maxHeartbeats 2000000 in
set_option maxRecDepth 100000 in
theorem gulp_no (g n : Nat) (rest : List UInt8) (it : Nat) (w : World) (h : Src w g rest it) (hn : n ≤ 4096) (hlt : rest.length < n) :
    Calls Tryz.prog 57 #[.pointer (some ⟨g, 0, none⟩), .int .i64 n] w fun e w' => e = .returned (.tuple #[.slice none 0 0, .bool false]) ∧ w = w' := by
  obtain ⟨A, cap, hb, hr, hc1, hc2⟩ := h
  have c0 : w.cell? ⟨g, 0, none⟩ = some (.slice A rest.length cap) := by rw [hb.cell]; rfl
  have hd : decide ((rest.length : Int) < (n : Int)) = true := by rw [decide_eq_true_iff]; omega
  have hd2 : decide (rest.length < n) = true := by rw [decide_eq_true_iff]; omega
  go_enter Tryz.func57, Tryz.ntmps57
  go_wp2_with fail
  go_ret2
  exact ⟨rfl, rfl⟩
set_option maxHeartbeats 2000000 in
set_option maxRecDepth 100000 in
theorem gulp_yes (g n : Nat) (rest : List UInt8) (it : Nat) (w : World) (h : Src w g rest it) (hn : n ≤ 4096) (hlt : n ≤ rest.length) :
    Calls Tryz.prog 57 #[.pointer (some ⟨g, 0, none⟩), .int .i64 n] w fun e w' =>
      ∃ A cap, e = .returned (.tuple #[.slice A n cap, .bool true]) ∧ Src w' g (rest.drop n) it ∧ Reads w' g 1 A n (bys (rest.take n)) ∧ Chg (fun k => k = g) w w' := by
  obtain ⟨A, cap, hb, hr, hc1, hc2⟩ := h
  have c0 : w.cell? ⟨g, 0, none⟩ = some (.slice A rest.length cap) := by rw [hb.cell]; rfl
  have f0 := hb.frozen 0
  have hd : decide ((rest.length : Int) < (n : Int)) = false := by rw [decide_eq_false_iff_not]; omega
  have hd2 : decide (rest.length < n) = false := by rw [decide_eq_false_iff_not]; omega
  have hn2 : n ≤ cap := by omega
  have Hr := Lib.hid hr
  have Hb := Lib.hid hb
  clear hr hb
  unfold maxLen at hc2
  go_enter Tryz.func57, Tryz.ntmps57
  go_wp2_with fail
  all_goals
    go_ret2
    refine ⟨A, ⟨_, rfl⟩, ?_, ?_, ?_⟩
    · have := Src.cut Hb.out Hr.out hlt hc1 (by unfold maxLen; omega)
      first
        | (rwa [if_neg (by assumption)] at this)
        | (rwa [if_pos (by assumption), show cap - n = 0 by omega] at this)
    · exact ((Hr.out).take1 hlt).setCell (Nat.le_refl _) _
    · exact (Chg.refl (fun k => k = g) w).setCell (.inl rfl) _
end Go.Proofs.YtdicelibjpmglaaGreatDoor
