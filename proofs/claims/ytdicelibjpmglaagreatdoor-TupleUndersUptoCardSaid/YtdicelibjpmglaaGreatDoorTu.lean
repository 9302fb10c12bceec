/-
  Layer 3: the law's awake.
-/
import Derived.Test.YtdicelibjpmglaaGreatDoorTt
namespace Go.Proofs.YtdicelibjpmglaaGreatDoor
open Go.RowKit
set_option linter.unusedVariables false
set_option linter.unusedSimpArgs false
attribute [local go_sem] run_store_float
open Tp (It)

/-- no item, no number, no float, no text -/
def atNone (k : Nat) (n : Int) (f : Nat) (t : List UInt8) : List UInt8 := []
def noAtom (k : Nat) (n : Int) (f : Nat) (t : List UInt8) : Prop := k ≠ 3 ∧ k ≠ 4 ∧ k ≠ 5
theorem pack_one (w : World) (m : Int) (hm : w.cell? ⟨1, 0, none⟩ = some (.int .i64 m)) :
    Calls Tryz.prog 29 #[.slice (some ⟨w.heap.size, 0, none⟩) 1 1] (w.alloc (.cells #[.int .u8 3, .bool false, .int .i64 1, .float .f64 0, S [], .slice none 0 0] 40)) fun e w' => e = .returned (.tuple #[S [21, 1], .int .i64 0]) ∧ Chg (fun _ => False) w w' := by
  have hlt := World.block_lt_of_cell? _ _ hm
  have hrow := Row.one (B := w.heap.size) (k := 3) (b := false) (n := 1) (f := 0) (t := []) (v := .slice none 0 0) (ls := []) (Blk.new w 40 #[.int .u8 3, .bool false, .int .i64 1, .float .f64 0, S [], .slice none 0 0]) ⟨by omega, by omega, by omega, by unfold U64; omega, by simp⟩ (.nil none 0 (fun _ => rfl)) (Nat.le_refl _)
  have hG : Glob (w.alloc (.cells #[.int .u8 3, .bool false, .int .i64 1, .float .f64 0, S [], .slice none 0 0] 40)) (w.heap.size + 1) := ⟨⟨m, (World.cell?_alloc_lt w _ _ hlt).trans hm⟩, Nat.lt_succ_of_lt hlt⟩
  refine (pack_calls hrow hG _ (Keep.refl _ _ (by simp)) (by simp [Tp.sz, Tp.len1, Tp.nb])).mono ?_
  rintro e w' ⟨rfl, hc⟩
  refine ⟨?_, ((Chg.refl _ w).alloc _).trans hc⟩
  have e1 : Tp.check [It.mk 3 false 1 0 [] []] = 0 := by simp [Tp.check, Tp.look, Tp.mayB, Tp.fitB, Tp.cleanB, Tp.len1, Tp.nb]
  have e2 : Tp.pack [It.mk 3 false 1 0 [] []] = [21, 1] := by
    have e3 : Tp.byt [It.mk 3 false 1 0 [] []] = [21, 1] := by simp [Tp.byt, Tp.one, Tp.intB, Tp.nb, Pk.be]
    unfold Tp.pack; rw [e1, e3]; rfl
  rw [e1, e2]
theorem print_true (w : World) :
    Calls Tryz.prog 17 #[.slice (some ⟨w.heap.size, 0, none⟩) 1 1] (w.alloc (.cells #[.int .u8 2, .bool true, .int .i64 0, .float .f64 0, S [], .slice none 0 0] 40)) fun e w' => e = .returned (.tuple #[S [40, 116, 114, 117, 101, 41], .int .i64 0]) ∧ Chg (fun _ => False) w w' := by
  have hrow := Row.one (B := w.heap.size) (k := 2) (b := true) (n := 0) (f := 0) (t := []) (v := .slice none 0 0) (ls := []) (Blk.new w 40 #[.int .u8 2, .bool true, .int .i64 0, .float .f64 0, S [], .slice none 0 0]) ⟨by omega, by omega, by omega, by unfold U64; omega, by simp⟩ (.nil none 0 (fun _ => rfl)) (Nat.le_refl _)
  refine (print_calls atNone noAtom hrow (fun k b n f t A m cap hP _ h => absurd h (by unfold noAtom at hP; omega)) _ (Keep.refl _ _ (by simp)) (by simp [Tp.sz, Tp.len1]) (fun _ => ⟨by simp [Tp.All, noAtom], by simp [Tp.wc, Tp.wrd]⟩)).mono ?_
  rintro e w' ⟨rfl, hc⟩
  refine ⟨?_, ((Chg.refl _ w).alloc _).trans hc⟩
  have e1 : Tp.check [It.mk 2 true 0 0 [] []] = 0 := by simp [Tp.check, Tp.look, Tp.mayB, Tp.fitB, Tp.cleanB, Tp.len1]
  have e2 : Tp.print atNone [It.mk 2 true 0 0 [] []] = [40, 116, 114, 117, 101, 41] := by
    have e3 : Tp.wc atNone true [It.mk 2 true 0 0 [] []] = [116, 114, 117, 101] := by simp [Tp.wc, Tp.wrd]
    unfold Tp.print; rw [e1, e3]; rfl
  rw [e1, e2]

set_option maxHeartbeats 4000000 in
set_option maxRecDepth 100000 in
theorem awake_calls (w : World) (m : Int) (hm : w.cell? ⟨1, 0, none⟩ = some (.int .i64 m)) :
    Calls Tryz.prog 15 #[] w fun e w' => e = .returned (.bool true) ∧ Chg (fun _ => False) w w' := by
  have H1 := Lib.hid (pack_one w m hm)
  have H2 := Lib.hid print_true
  have H3 := Lib.hid unpack_null
  clear hm
  go_enter Tryz.func15, Tryz.ntmps15
  go_wp2_with fail
  refine H1.out.mono ?_
  rintro e w1 ⟨rfl, hc1⟩
  go_wp2_with fail
  refine (H2.out w1).mono ?_
  rintro e w2 ⟨rfl, hc2⟩
  go_wp2_with fail
  refine (H3.out w2).mono ?_
  rintro e w3 ⟨g, cap, rfl, hcell, hc3⟩
  go_wp2_with fail
  go_ret
  exact ⟨rfl, (hc1.trans hc2).trans hc3⟩
end Go.Proofs.YtdicelibjpmglaaGreatDoor
