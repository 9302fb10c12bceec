/-
  Layer 3: Unpack of the byte 01, Pack of the number 1, Print of true: the law's awake.
-/
import Derived.Test.YtdicelibjpmglaaGreatDoorTq
import Derived.Laws.ResultCell
import Derived.Laws.Rows
namespace Go.Proofs.YtdicelibjpmglaaGreatDoor
open Go.RowKit
set_option linter.unusedVariables false
set_option linter.unusedSimpArgs false
attribute [local go_sem] run_store_float
open Tp (It)

theorem results_ct {P : Program} {fn : Func} {p u : Tmp} {ty : TypeId} (h : fn.results = #[.cell p ty, .tmp u]) (tmps : Array Value) (w : World) (g : Nat) (t : TypeId) (cs : Array Value) (fr : Nat × Nat) (d : TypeDesc)
    (hp : tmps.getD p undef = .pointer (some ⟨g, 0, none⟩)) (hg : w.heap[g]? = some (.cells cs t fr))
    (hu : P.underlying ty = some d) (hd : (match d with | .struct _ | .array _ _ => true | _ => false) = true) (hi : (P.info? ty).map (·.size) = some cs.size) :
    (results fn tmps).run P w = .ok (.tuple #[.agg cs, tmps.getD u undef]) w := by
  rw [results_cell_tmp h]
  have hp' : tmps[p]?.getD undef = .pointer (some ⟨g, 0, none⟩) := by simpa using hp
  simp [hp', asAddr, run_loadVar_row w g t ty cs fr d hg hu hd hi, Result.andThen]

set_option maxHeartbeats 4000000 in
set_option maxRecDepth 100000 in
theorem item_null (g : Nat) (w : World) (h : Src w g [1] 0) :
    Calls Tryz.prog 33 #[.pointer (some ⟨g, 0, none⟩), .int .i64 0] w fun e w' =>
      e = .returned (.tuple #[IV 1 false 0 0 [] (.slice none 0 0), .bool true]) ∧ Src w' g [] 1 ∧ Chg (fun k => k = g) w w' := by
  have hlg : g < w.heap.size := by obtain ⟨A, cap, hb, -⟩ := h; exact hb.lt
  have HG := Lib.hid (fun w2 (h2 : Src w2 g [1] 0) => gulp_yes g 1 [1] 0 w2 h2 (by omega) (by simp))
  have H := Lib.hid h
  clear h
  go_enter Tryz.func33, Tryz.ntmps33
  go_wp2_with fail
  refine (HG.out _ ?_).mono ?_
  · exact ((H.out).alloc (by omega) _).alloc (by simp; omega) _
  rintro e w2 ⟨A, cap, rfl, h2, hr2, hc2⟩
  obtain ⟨A2, cap2, hb2, hrr, hcc⟩ := h2
  have hgs : g ≠ w.heap.size := by omega
  have hgs1 : g ≠ w.heap.size + 1 := by omega
  have hgs' : w.heap.size ≠ g := by omega
  have hgs1' : w.heap.size + 1 ≠ g := by omega
  obtain ⟨ad, rfl, hbk, hac⟩ := hr2.2 (by omega)
  have a0 : w2.cell? ad = some (.int .u8 1) := by
    have := hac 0 (.int .u8 1) rfl
    simpa [Addr.add] using this
  have a1 : ∀ u, (w2.setCell ⟨g, 1, none⟩ u).cell? ad = some (.int .u8 1) := fun u => by
    rw [World.cell?_setCell_other w2 ⟨g, 1, none⟩ ad u (fun e => by subst e; exact absurd hbk (Nat.lt_irrefl _))]
    exact a0
  have s1 : w2.cell? ⟨g, 1, none⟩ = some (.int .i64 0) := by rw [hb2.cell]; rfl
  have f1 := hb2.frozen 1
  have bx := ((Blk.new w 40 #[.int .u8 0, .bool false, .int .i64 0, .float .f64 0, S [], .slice none 0 0]).alloc (.cells #[.int .u8 0, .bool false, .int .i64 0, .float .f64 0, S [], .slice none 0 0] 40)).chg hc2 hgs'
  have x0 : w2.cell? ⟨w.heap.size, 0, none⟩ = some (.int .u8 0) := by rw [bx.cell]; rfl
  have x1 : w2.cell? ⟨w.heap.size, 1, none⟩ = some (.bool false) := by rw [bx.cell]; rfl
  have x2 : w2.cell? ⟨w.heap.size, 2, none⟩ = some (.int .i64 0) := by rw [bx.cell]; rfl
  have x3 : w2.cell? ⟨w.heap.size, 3, none⟩ = some (.float .f64 0) := by rw [bx.cell]; rfl
  have x4 : w2.cell? ⟨w.heap.size, 4, none⟩ = some (S []) := by rw [bx.cell]; rfl
  have x5 : w2.cell? ⟨w.heap.size, 5, none⟩ = some (.slice none 0 0) := by rw [bx.cell]; rfl
  have y0 := bx.frozen 0
  have y1 := bx.frozen 1
  have y2 := bx.frozen 2
  have y3 := bx.frozen 3
  have y4 := bx.frozen 4
  have y5 := bx.frozen 5
  have Hb2 := Lib.hid hb2
  have Bx := Lib.hid bx
  have Hrr := Lib.hid hrr
  have Hc2 := Lib.hid hc2
  have Hcc := Lib.hid hcc
  clear hb2 hrr hc2 hr2 hac bx hcc
  go_wp2_with fail
  have hfin : Blk (((((((w2.setCell ⟨g, 1, none⟩ (.int .i64 1)).setCell ⟨w.heap.size, 0, none⟩ (.int .u8 1)).setCell ⟨w.heap.size, 1, none⟩ (.bool false)).setCell ⟨w.heap.size, 2, none⟩ (.int .i64 0)).setCell ⟨w.heap.size, 3, none⟩ (.float .f64 0)).setCell ⟨w.heap.size, 4, none⟩ (S [])).setCell ⟨w.heap.size, 5, none⟩ (.slice none 0 0)) w.heap.size 40 #[.int .u8 1, .bool false, .int .i64 0, .float .f64 0, S [], .slice none 0 0] :=
    ((((((((Bx.out).far (p := ⟨g, 1, none⟩) hgs' (.int .i64 1)).set_ 0 (.int .u8 1)).set_ 1 (.bool false)).set_ 2 (.int .i64 0)).set_ 3 (.float .f64 0)).set_ 4 (S [])).set_ 5 (.slice none 0 0))
  refine bodyPost_ret (results_ct rfl _ _ w.heap.size 40 _ (0, 0) _ rfl hfin Tryz.underlying40 rfl (by kernel_rfl)) rfl ?_
  refine ⟨rfl, ?_, ?_⟩
  · have hsg : Src (w2.setCell ⟨g, 1, none⟩ (.int .i64 1)) g [] 1 := ⟨A2, cap2, (Hb2.out).set_ 1 _, (Hrr.out).setCell (Nat.le_refl _) _, Hcc.out⟩
    exact ((((((hsg.far hlg _).far hlg _).far hlg _).far hlg _).far hlg _).far hlg _)
  · have hc0 := (((Chg.refl (fun k => k = g) w).alloc (.cells #[.int .u8 0, .bool false, .int .i64 0, .float .f64 0, S [], .slice none 0 0] 40)).alloc (.cells #[.int .u8 0, .bool false, .int .i64 0, .float .f64 0, S [], .slice none 0 0] 40)).andThen Hc2.out (fun _ _ h => h)
    exact ((((((hc0.setCell (.inl rfl) _).setCell (.inr (Nat.le_refl _)) _).setCell (.inr (Nat.le_refl _)) _).setCell (.inr (Nat.le_refl _)) _).setCell (.inr (Nat.le_refl _)) _).setCell (.inr (Nat.le_refl _)) _).setCell (.inr (Nat.le_refl _)) _
end Go.Proofs.YtdicelibjpmglaaGreatDoor
