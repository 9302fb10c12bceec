/-
  heartwoodlaw01.laid: a Step's bytes by the document, one walk for each kind. Printed by gen_laid.py.
-/
import Derived.Test.YtkajbpdhglaieaaRef
namespace Go.Proofs.Ytkajbpdhglaieaa
open Go.RowKit
set_option linter.unusedVariables false
theorem Lst.chg0 {w w' : World} {A : Option Addr} {n : Nat} {xs : List Value} (h : Lst w A n xs) (hc : Chg (fun _ => False) w w') : Lst w' A n xs := h.chg hc (fun _ _ _ h => h)
theorem cells_keep {w w' : World} {t : TypeId} {cs : Array Value} (hc : Chg (fun _ => False) (w.alloc (.cells cs t)) w') (j : Nat) : w'.cell? ⟨w.heap.size, j, none⟩ = cs[j]? := by
  rw [((Blk.new w t cs).chg hc (fun h => h)).cell]

set_option maxHeartbeats 1000000 in
set_option maxRecDepth 100000 in
theorem laid_0 (x : St) (w : World) (hx : x.Ok w) (hk : Hid (x.kind = 0)) :
    Calls Try.prog 19 #[.agg x.cells] w fun e w' => e = .returned (S (Pk.be 1 x.n)) ∧ Chg (fun _ => False) w w' := by
  have hpl := Lib.hid hx.pl
  have hnl := Lib.hid hx.nl
  obtain ⟨kind, n, i, s, A, an, ac, parts, B, bn, bc, ns, width, most, bound⟩ := x
  obtain ⟨hn, hi, hkk, hwd, hmo, hbo, hA, hB, hns, hrm⟩ := hx
  unfold St.cells
  dsimp only at *
  obtain ⟨rfl⟩ := hk
  go_enter Try.func19, Try.ntmps19
  go_wp2_with fail
  refine (size_calls _ _).mono ?_
  rintro e w1 ⟨rfl, c1⟩
  have hz : sz 0 = 1 := rfl
  rw [hz]
  have k0 : w1.cell? ⟨w.heap.size, 0, none⟩ = some (.int .i64 0) := cells_keep c1 0
  have k1 : w1.cell? ⟨w.heap.size, 1, none⟩ = some (.int .u64 n) := cells_keep c1 1
  have hA := (hA.alloc _).chg0 c1
  have hB := (hB.alloc _).chg0 c1
  have c0 := ((Chg.refl _ w).alloc _).trans c1
  go_wp2_with fail
  refine (ref_fixed n 1 hn (by omega) _).mono ?_
  rintro e w2 ⟨rfl, c2⟩
  go_wp2_with fail
  go_ret
  exact ⟨rfl, c0.trans c2⟩

set_option maxHeartbeats 1000000 in
set_option maxRecDepth 100000 in
theorem laid_1 (x : St) (w : World) (hx : x.Ok w) (hk : Hid (x.kind = 1)) :
    Calls Try.prog 19 #[.agg x.cells] w fun e w' => e = .returned (S (Pk.be 2 x.n)) ∧ Chg (fun _ => False) w w' := by
  have hpl := Lib.hid hx.pl
  have hnl := Lib.hid hx.nl
  obtain ⟨kind, n, i, s, A, an, ac, parts, B, bn, bc, ns, width, most, bound⟩ := x
  obtain ⟨hn, hi, hkk, hwd, hmo, hbo, hA, hB, hns, hrm⟩ := hx
  unfold St.cells
  dsimp only at *
  obtain ⟨rfl⟩ := hk
  go_enter Try.func19, Try.ntmps19
  go_wp2_with fail
  refine (size_calls _ _).mono ?_
  rintro e w1 ⟨rfl, c1⟩
  have hz : sz 1 = 2 := rfl
  rw [hz]
  have k0 : w1.cell? ⟨w.heap.size, 0, none⟩ = some (.int .i64 1) := cells_keep c1 0
  have k1 : w1.cell? ⟨w.heap.size, 1, none⟩ = some (.int .u64 n) := cells_keep c1 1
  have hA := (hA.alloc _).chg0 c1
  have hB := (hB.alloc _).chg0 c1
  have c0 := ((Chg.refl _ w).alloc _).trans c1
  go_wp2_with fail
  refine (ref_fixed n 2 hn (by omega) _).mono ?_
  rintro e w2 ⟨rfl, c2⟩
  go_wp2_with fail
  go_ret
  exact ⟨rfl, c0.trans c2⟩

set_option maxHeartbeats 1000000 in
set_option maxRecDepth 100000 in
theorem laid_2 (x : St) (w : World) (hx : x.Ok w) (hk : Hid (x.kind = 2)) :
    Calls Try.prog 19 #[.agg x.cells] w fun e w' => e = .returned (S (Pk.be 4 x.n)) ∧ Chg (fun _ => False) w w' := by
  have hpl := Lib.hid hx.pl
  have hnl := Lib.hid hx.nl
  obtain ⟨kind, n, i, s, A, an, ac, parts, B, bn, bc, ns, width, most, bound⟩ := x
  obtain ⟨hn, hi, hkk, hwd, hmo, hbo, hA, hB, hns, hrm⟩ := hx
  unfold St.cells
  dsimp only at *
  obtain ⟨rfl⟩ := hk
  go_enter Try.func19, Try.ntmps19
  go_wp2_with fail
  refine (size_calls _ _).mono ?_
  rintro e w1 ⟨rfl, c1⟩
  have hz : sz 2 = 4 := rfl
  rw [hz]
  have k0 : w1.cell? ⟨w.heap.size, 0, none⟩ = some (.int .i64 2) := cells_keep c1 0
  have k1 : w1.cell? ⟨w.heap.size, 1, none⟩ = some (.int .u64 n) := cells_keep c1 1
  have hA := (hA.alloc _).chg0 c1
  have hB := (hB.alloc _).chg0 c1
  have c0 := ((Chg.refl _ w).alloc _).trans c1
  go_wp2_with fail
  refine (ref_fixed n 4 hn (by omega) _).mono ?_
  rintro e w2 ⟨rfl, c2⟩
  go_wp2_with fail
  go_ret
  exact ⟨rfl, c0.trans c2⟩

set_option maxHeartbeats 1000000 in
set_option maxRecDepth 100000 in
theorem laid_3 (x : St) (w : World) (hx : x.Ok w) (hk : Hid (x.kind = 3)) :
    Calls Try.prog 19 #[.agg x.cells] w fun e w' => e = .returned (S (Pk.be 8 x.n)) ∧ Chg (fun _ => False) w w' := by
  have hpl := Lib.hid hx.pl
  have hnl := Lib.hid hx.nl
  obtain ⟨kind, n, i, s, A, an, ac, parts, B, bn, bc, ns, width, most, bound⟩ := x
  obtain ⟨hn, hi, hkk, hwd, hmo, hbo, hA, hB, hns, hrm⟩ := hx
  unfold St.cells
  dsimp only at *
  obtain ⟨rfl⟩ := hk
  go_enter Try.func19, Try.ntmps19
  go_wp2_with fail
  refine (size_calls _ _).mono ?_
  rintro e w1 ⟨rfl, c1⟩
  have hz : sz 3 = 8 := rfl
  rw [hz]
  have k0 : w1.cell? ⟨w.heap.size, 0, none⟩ = some (.int .i64 3) := cells_keep c1 0
  have k1 : w1.cell? ⟨w.heap.size, 1, none⟩ = some (.int .u64 n) := cells_keep c1 1
  have hA := (hA.alloc _).chg0 c1
  have hB := (hB.alloc _).chg0 c1
  have c0 := ((Chg.refl _ w).alloc _).trans c1
  go_wp2_with fail
  refine (ref_fixed n 8 hn (by omega) _).mono ?_
  rintro e w2 ⟨rfl, c2⟩
  go_wp2_with fail
  go_ret
  exact ⟨rfl, c0.trans c2⟩

set_option maxHeartbeats 1000000 in
set_option maxRecDepth 100000 in
theorem laid_4 (x : St) (w : World) (hx : x.Ok w) (hk : Hid (x.kind = 4)) :
    Calls Try.prog 19 #[.agg x.cells] w fun e w' => e = .returned (S (Pk.be 1 x.n)) ∧ Chg (fun _ => False) w w' := by
  have hpl := Lib.hid hx.pl
  have hnl := Lib.hid hx.nl
  obtain ⟨kind, n, i, s, A, an, ac, parts, B, bn, bc, ns, width, most, bound⟩ := x
  obtain ⟨hn, hi, hkk, hwd, hmo, hbo, hA, hB, hns, hrm⟩ := hx
  unfold St.cells
  dsimp only at *
  obtain ⟨rfl⟩ := hk
  go_enter Try.func19, Try.ntmps19
  go_wp2_with fail
  refine (size_calls _ _).mono ?_
  rintro e w1 ⟨rfl, c1⟩
  have hz : sz 4 = 1 := rfl
  rw [hz]
  have k0 : w1.cell? ⟨w.heap.size, 0, none⟩ = some (.int .i64 4) := cells_keep c1 0
  have k1 : w1.cell? ⟨w.heap.size, 1, none⟩ = some (.int .u64 n) := cells_keep c1 1
  have hA := (hA.alloc _).chg0 c1
  have hB := (hB.alloc _).chg0 c1
  have c0 := ((Chg.refl _ w).alloc _).trans c1
  go_wp2_with fail
  refine (ref_fixed n 1 hn (by omega) _).mono ?_
  rintro e w2 ⟨rfl, c2⟩
  go_wp2_with fail
  go_ret
  exact ⟨rfl, c0.trans c2⟩

set_option maxHeartbeats 1000000 in
set_option maxRecDepth 100000 in
theorem laid_5 (x : St) (w : World) (hx : x.Ok w) (hk : Hid (x.kind = 5)) :
    Calls Try.prog 19 #[.agg x.cells] w fun e w' => e = .returned (S (Pk.be 2 x.n)) ∧ Chg (fun _ => False) w w' := by
  have hpl := Lib.hid hx.pl
  have hnl := Lib.hid hx.nl
  obtain ⟨kind, n, i, s, A, an, ac, parts, B, bn, bc, ns, width, most, bound⟩ := x
  obtain ⟨hn, hi, hkk, hwd, hmo, hbo, hA, hB, hns, hrm⟩ := hx
  unfold St.cells
  dsimp only at *
  obtain ⟨rfl⟩ := hk
  go_enter Try.func19, Try.ntmps19
  go_wp2_with fail
  refine (size_calls _ _).mono ?_
  rintro e w1 ⟨rfl, c1⟩
  have hz : sz 5 = 2 := rfl
  rw [hz]
  have k0 : w1.cell? ⟨w.heap.size, 0, none⟩ = some (.int .i64 5) := cells_keep c1 0
  have k1 : w1.cell? ⟨w.heap.size, 1, none⟩ = some (.int .u64 n) := cells_keep c1 1
  have hA := (hA.alloc _).chg0 c1
  have hB := (hB.alloc _).chg0 c1
  have c0 := ((Chg.refl _ w).alloc _).trans c1
  go_wp2_with fail
  refine (ref_fixed n 2 hn (by omega) _).mono ?_
  rintro e w2 ⟨rfl, c2⟩
  go_wp2_with fail
  go_ret
  exact ⟨rfl, c0.trans c2⟩

set_option maxHeartbeats 1000000 in
set_option maxRecDepth 100000 in
theorem laid_6 (x : St) (w : World) (hx : x.Ok w) (hk : Hid (x.kind = 6)) :
    Calls Try.prog 19 #[.agg x.cells] w fun e w' => e = .returned (S (Pk.be 4 x.n)) ∧ Chg (fun _ => False) w w' := by
  have hpl := Lib.hid hx.pl
  have hnl := Lib.hid hx.nl
  obtain ⟨kind, n, i, s, A, an, ac, parts, B, bn, bc, ns, width, most, bound⟩ := x
  obtain ⟨hn, hi, hkk, hwd, hmo, hbo, hA, hB, hns, hrm⟩ := hx
  unfold St.cells
  dsimp only at *
  obtain ⟨rfl⟩ := hk
  go_enter Try.func19, Try.ntmps19
  go_wp2_with fail
  refine (size_calls _ _).mono ?_
  rintro e w1 ⟨rfl, c1⟩
  have hz : sz 6 = 4 := rfl
  rw [hz]
  have k0 : w1.cell? ⟨w.heap.size, 0, none⟩ = some (.int .i64 6) := cells_keep c1 0
  have k1 : w1.cell? ⟨w.heap.size, 1, none⟩ = some (.int .u64 n) := cells_keep c1 1
  have hA := (hA.alloc _).chg0 c1
  have hB := (hB.alloc _).chg0 c1
  have c0 := ((Chg.refl _ w).alloc _).trans c1
  go_wp2_with fail
  refine (ref_fixed n 4 hn (by omega) _).mono ?_
  rintro e w2 ⟨rfl, c2⟩
  go_wp2_with fail
  go_ret
  exact ⟨rfl, c0.trans c2⟩

set_option maxHeartbeats 1000000 in
set_option maxRecDepth 100000 in
theorem laid_7 (x : St) (w : World) (hx : x.Ok w) (hk : Hid (x.kind = 7)) :
    Calls Try.prog 19 #[.agg x.cells] w fun e w' => e = .returned (S (Pk.be 8 x.n)) ∧ Chg (fun _ => False) w w' := by
  have hpl := Lib.hid hx.pl
  have hnl := Lib.hid hx.nl
  obtain ⟨kind, n, i, s, A, an, ac, parts, B, bn, bc, ns, width, most, bound⟩ := x
  obtain ⟨hn, hi, hkk, hwd, hmo, hbo, hA, hB, hns, hrm⟩ := hx
  unfold St.cells
  dsimp only at *
  obtain ⟨rfl⟩ := hk
  go_enter Try.func19, Try.ntmps19
  go_wp2_with fail
  refine (size_calls _ _).mono ?_
  rintro e w1 ⟨rfl, c1⟩
  have hz : sz 7 = 8 := rfl
  rw [hz]
  have k0 : w1.cell? ⟨w.heap.size, 0, none⟩ = some (.int .i64 7) := cells_keep c1 0
  have k1 : w1.cell? ⟨w.heap.size, 1, none⟩ = some (.int .u64 n) := cells_keep c1 1
  have hA := (hA.alloc _).chg0 c1
  have hB := (hB.alloc _).chg0 c1
  have c0 := ((Chg.refl _ w).alloc _).trans c1
  go_wp2_with fail
  refine (ref_fixed n 8 hn (by omega) _).mono ?_
  rintro e w2 ⟨rfl, c2⟩
  go_wp2_with fail
  go_ret
  exact ⟨rfl, c0.trans c2⟩

set_option maxHeartbeats 1000000 in
set_option maxRecDepth 100000 in
theorem laid_8 (x : St) (w : World) (hx : x.Ok w) (hk : Hid (x.kind = 8)) :
    Calls Try.prog 19 #[.agg x.cells] w fun e w' => e = .returned (S (Pk.be 2 x.n)) ∧ Chg (fun _ => False) w w' := by
  have hpl := Lib.hid hx.pl
  have hnl := Lib.hid hx.nl
  obtain ⟨kind, n, i, s, A, an, ac, parts, B, bn, bc, ns, width, most, bound⟩ := x
  obtain ⟨hn, hi, hkk, hwd, hmo, hbo, hA, hB, hns, hrm⟩ := hx
  unfold St.cells
  dsimp only at *
  obtain ⟨rfl⟩ := hk
  go_enter Try.func19, Try.ntmps19
  go_wp2_with fail
  refine (size_calls _ _).mono ?_
  rintro e w1 ⟨rfl, c1⟩
  have hz : sz 8 = 2 := rfl
  rw [hz]
  have k0 : w1.cell? ⟨w.heap.size, 0, none⟩ = some (.int .i64 8) := cells_keep c1 0
  have k1 : w1.cell? ⟨w.heap.size, 1, none⟩ = some (.int .u64 n) := cells_keep c1 1
  have hA := (hA.alloc _).chg0 c1
  have hB := (hB.alloc _).chg0 c1
  have c0 := ((Chg.refl _ w).alloc _).trans c1
  go_wp2_with fail
  refine (ref_fixed n 2 hn (by omega) _).mono ?_
  rintro e w2 ⟨rfl, c2⟩
  go_wp2_with fail
  go_ret
  exact ⟨rfl, c0.trans c2⟩

set_option maxHeartbeats 1000000 in
set_option maxRecDepth 100000 in
theorem laid_9 (x : St) (w : World) (hx : x.Ok w) (hk : Hid (x.kind = 9)) :
    Calls Try.prog 19 #[.agg x.cells] w fun e w' => e = .returned (S (Pk.free x.n)) ∧ Chg (fun _ => False) w w' := by
  have hpl := Lib.hid hx.pl
  have hnl := Lib.hid hx.nl
  obtain ⟨kind, n, i, s, A, an, ac, parts, B, bn, bc, ns, width, most, bound⟩ := x
  obtain ⟨hn, hi, hkk, hwd, hmo, hbo, hA, hB, hns, hrm⟩ := hx
  unfold St.cells
  dsimp only at *
  obtain ⟨rfl⟩ := hk
  go_enter Try.func19, Try.ntmps19
  go_wp2_with fail
  refine (size_calls _ _).mono ?_
  rintro e w1 ⟨rfl, c1⟩
  have hz : sz 9 = 0 := rfl
  rw [hz]
  have k0 : w1.cell? ⟨w.heap.size, 0, none⟩ = some (.int .i64 9) := cells_keep c1 0
  have k1 : w1.cell? ⟨w.heap.size, 1, none⟩ = some (.int .u64 n) := cells_keep c1 1
  have hA := (hA.alloc _).chg0 c1
  have hB := (hB.alloc _).chg0 c1
  have c0 := ((Chg.refl _ w).alloc _).trans c1
  go_wp2_with fail
  refine (ref_freeI _ n rfl hn _).mono ?_
  rintro e w2 ⟨rfl, c2⟩
  go_wp2_with fail
  go_ret
  exact ⟨rfl, c0.trans c2⟩

set_option maxHeartbeats 1000000 in
set_option maxRecDepth 100000 in
theorem laid_10 (x : St) (w : World) (hx : x.Ok w) (hk : Hid (x.kind = 10)) :
    Calls Try.prog 19 #[.agg x.cells] w fun e w' => e = .returned (S (Pk.free (Pk.zig x.i))) ∧ Chg (fun _ => False) w w' := by
  have hpl := Lib.hid hx.pl
  have hnl := Lib.hid hx.nl
  obtain ⟨kind, n, i, s, A, an, ac, parts, B, bn, bc, ns, width, most, bound⟩ := x
  obtain ⟨hn, hi, hkk, hwd, hmo, hbo, hA, hB, hns, hrm⟩ := hx
  unfold St.cells
  dsimp only at *
  obtain ⟨rfl⟩ := hk
  go_enter Try.func19, Try.ntmps19
  go_wp2_with fail
  refine (size_calls _ _).mono ?_
  rintro e w1 ⟨rfl, c1⟩
  have hz : sz 10 = 0 := rfl
  rw [hz]
  have k0 : w1.cell? ⟨w.heap.size, 0, none⟩ = some (.int .i64 10) := cells_keep c1 0
  have k2 : w1.cell? ⟨w.heap.size, 2, none⟩ = some (.int .i64 i) := cells_keep c1 2
  have hA := (hA.alloc _).chg0 c1
  have hB := (hB.alloc _).chg0 c1
  have c0 := ((Chg.refl _ w).alloc _).trans c1
  go_wp2_with fail
  refine (ref_signed i hi _).mono ?_
  rintro e w2 ⟨rfl, c2⟩
  go_wp2_with fail
  go_ret
  exact ⟨rfl, c0.trans c2⟩

set_option maxHeartbeats 1000000 in
set_option maxRecDepth 100000 in
theorem laid_12 (x : St) (w : World) (hx : x.Ok w) (hk : Hid (x.kind = 12)) :
    Calls Try.prog 19 #[.agg x.cells] w fun e w' => e = .returned (S (Pk.free x.s.length ++ x.s)) ∧ Chg (fun _ => False) w w' := by
  have hpl := Lib.hid hx.pl
  have hnl := Lib.hid hx.nl
  obtain ⟨kind, n, i, s, A, an, ac, parts, B, bn, bc, ns, width, most, bound⟩ := x
  obtain ⟨hn, hi, hkk, hwd, hmo, hbo, hA, hB, hns, hrm⟩ := hx
  unfold St.cells
  dsimp only at *
  obtain ⟨rfl⟩ := hk
  go_enter Try.func19, Try.ntmps19
  go_wp2_with fail
  refine (size_calls _ _).mono ?_
  rintro e w1 ⟨rfl, c1⟩
  have hz : sz 12 = 0 := rfl
  rw [hz]
  have k0 : w1.cell? ⟨w.heap.size, 0, none⟩ = some (.int .i64 12) := cells_keep c1 0
  have k3 : w1.cell? ⟨w.heap.size, 3, none⟩ = some (S s) := cells_keep c1 3
  have hA := (hA.alloc _).chg0 c1
  have hB := (hB.alloc _).chg0 c1
  have c0 := ((Chg.refl _ w).alloc _).trans c1
  go_wp2_with fail
  refine (ref_text s (by omega) _).mono ?_
  rintro e w2 ⟨rfl, c2⟩
  go_wp2_with fail
  go_ret
  exact ⟨rfl, c0.trans c2⟩

set_option maxHeartbeats 1000000 in
set_option maxRecDepth 100000 in
theorem laid_15 (x : St) (w : World) (hx : x.Ok w) (hk : Hid (x.kind = 15)) :
    Calls Try.prog 19 #[.agg x.cells] w fun e w' => e = .returned (S (Pk.free x.an ++ (x.parts.map Pk.text).flatten)) ∧ Chg (fun _ => False) w w' := by
  have hpl := Lib.hid hx.pl
  have hnl := Lib.hid hx.nl
  obtain ⟨kind, n, i, s, A, an, ac, parts, B, bn, bc, ns, width, most, bound⟩ := x
  obtain ⟨hn, hi, hkk, hwd, hmo, hbo, hA, hB, hns, hrm⟩ := hx
  unfold St.cells
  dsimp only at *
  obtain ⟨rfl⟩ := hk
  go_enter Try.func19, Try.ntmps19
  go_wp2_with fail
  refine (size_calls _ _).mono ?_
  rintro e w1 ⟨rfl, c1⟩
  have hz : sz 15 = 0 := rfl
  rw [hz]
  have k0 : w1.cell? ⟨w.heap.size, 0, none⟩ = some (.int .i64 15) := cells_keep c1 0
  have k4 : w1.cell? ⟨w.heap.size, 4, none⟩ = some (.slice A an ac) := cells_keep c1 4
  have hA := (hA.alloc _).chg0 c1
  have hB := (hB.alloc _).chg0 c1
  have c0 := ((Chg.refl _ w).alloc _).trans c1
  go_wp2_with fail
  refine (ref_join A an ac parts _ hA (by omega)).mono ?_
  rintro e w2 ⟨rfl, c2⟩
  go_wp2_with fail
  go_ret
  exact ⟨ret_S (by unfold Pk.join; rw [hpl.out]), c0.trans c2⟩

set_option maxHeartbeats 1000000 in
set_option maxRecDepth 100000 in
theorem laid_16 (x : St) (w : World) (hx : x.Ok w) (hk : Hid (x.kind = 16)) :
    Calls Try.prog 19 #[.agg x.cells] w fun e w' => e = .returned (S (Pk.free x.an ++ (x.parts.map Pk.text).flatten)) ∧ Chg (fun _ => False) w w' := by
  have hpl := Lib.hid hx.pl
  have hnl := Lib.hid hx.nl
  obtain ⟨kind, n, i, s, A, an, ac, parts, B, bn, bc, ns, width, most, bound⟩ := x
  obtain ⟨hn, hi, hkk, hwd, hmo, hbo, hA, hB, hns, hrm⟩ := hx
  unfold St.cells
  dsimp only at *
  obtain ⟨rfl⟩ := hk
  go_enter Try.func19, Try.ntmps19
  go_wp2_with fail
  refine (size_calls _ _).mono ?_
  rintro e w1 ⟨rfl, c1⟩
  have hz : sz 16 = 0 := rfl
  rw [hz]
  have k0 : w1.cell? ⟨w.heap.size, 0, none⟩ = some (.int .i64 16) := cells_keep c1 0
  have k4 : w1.cell? ⟨w.heap.size, 4, none⟩ = some (.slice A an ac) := cells_keep c1 4
  have hA := (hA.alloc _).chg0 c1
  have hB := (hB.alloc _).chg0 c1
  have c0 := ((Chg.refl _ w).alloc _).trans c1
  go_wp2_with fail
  refine (ref_join A an ac parts _ hA (by omega)).mono ?_
  rintro e w2 ⟨rfl, c2⟩
  go_wp2_with fail
  go_ret
  exact ⟨ret_S (by unfold Pk.join; rw [hpl.out]), c0.trans c2⟩

set_option maxHeartbeats 1000000 in
set_option maxRecDepth 100000 in
theorem laid_11 (x : St) (w : World) (hx : x.Ok w) (hk : Hid (x.kind = 11)) :
    Calls Try.prog 19 #[.agg x.cells] w fun e w' => e = .returned (S (x.parts.flatten)) ∧ Chg (fun _ => False) w w' := by
  have hpl := Lib.hid hx.pl
  have hnl := Lib.hid hx.nl
  obtain ⟨kind, n, i, s, A, an, ac, parts, B, bn, bc, ns, width, most, bound⟩ := x
  obtain ⟨hn, hi, hkk, hwd, hmo, hbo, hA, hB, hns, hrm⟩ := hx
  unfold St.cells
  dsimp only at *
  obtain ⟨rfl⟩ := hk
  go_enter Try.func19, Try.ntmps19
  go_wp2_with fail
  refine (size_calls _ _).mono ?_
  rintro e w1 ⟨rfl, c1⟩
  have hz : sz 11 = 0 := rfl
  rw [hz]
  have k0 : w1.cell? ⟨w.heap.size, 0, none⟩ = some (.int .i64 11) := cells_keep c1 0
  have k4 : w1.cell? ⟨w.heap.size, 4, none⟩ = some (.slice A an ac) := cells_keep c1 4
  have hA := (hA.alloc _).chg0 c1
  have hB := (hB.alloc _).chg0 c1
  have c0 := ((Chg.refl _ w).alloc _).trans c1
  go_wp2_with fail
  go_loopw [4, 5] (fun sv iv wr => ∃ k : Nat, k ≤ an ∧ iv = .int .i64 k ∧ sv = S (parts.take k).flatten ∧ wr = w1) (fun _ iv _ => an - (intOf iv).toNat)
  case atStart => exact ⟨0, by omega, rfl, by simp, rfl⟩
  case round =>
    obtain ⟨k, hk, rfl, rfl, rfl⟩ := hrel
    by_cases hp : k < an
    · obtain ⟨b, off, u, rfl, hu, hcell⟩ := hA.at_ hp
      have hpk : k < parts.length := by rw [hpl.out]; exact hp
      obtain ⟨l, hlk, hd⟩ := drop_at parts hpk
      have : u = S l := by
        simp only [strs, List.getElem?_map, hlk, Option.map_some, Option.some.injEq] at hu
        exact hu.symm
      subst this
      have htk : (parts.take (k + 1)).flatten = (parts.take k).flatten ++ l := by rw [List.take_add_one, hlk]; simp
      have hle : ((parts.take k).flatten ++ l).length ≤ parts.flatten.length := by
        rw [← htk]
        have h2 : parts.flatten = (parts.take (k + 1)).flatten ++ (parts.drop (k + 1)).flatten := by
          rw [← List.flatten_append, List.take_append_drop]
        rw [h2, List.length_append (bs := (parts.drop (k + 1)).flatten)]
        omega
      have hadd := fun w => add_S (parts.take k).flatten l (by rw [List.length_append] at hle; omega) w
      have Htk := Lib.hid htk
      clear hu hlk hd htk hle hpk
      go_wp2_with fail
      go_roundw
      case rel => exact ⟨k + 1, by omega, by go_num, by rw [Htk.out], (by first | rfl | trivial)⟩
      case measure => simp [intOf]; omega
    · obtain rfl : k = an := by omega
      have hfin : (parts.take k).flatten = parts.flatten := by rw [List.take_of_length_le (by rw [hpl.out]; omega)]
      have Hfin := Lib.hid hfin
      clear hfin
      go_wp2_with fail
      go_ret
      exact ⟨ret_S Hfin.out, c0⟩

set_option maxHeartbeats 1000000 in
set_option maxRecDepth 100000 in
theorem laid_14 (x : St) (w : World) (hx : x.Ok w) (hk : Hid (x.kind = 14)) :
    Calls Try.prog 19 #[.agg x.cells] w fun e w' => e = .returned (S (Pk.free x.bn ++ (x.ns.map Pk.free).flatten)) ∧ Chg (fun _ => False) w w' := by
  have hpl := Lib.hid hx.pl
  have hnl := Lib.hid hx.nl
  obtain ⟨kind, n, i, s, A, an, ac, parts, B, bn, bc, ns, width, most, bound⟩ := x
  obtain ⟨hn, hi, hkk, hwd, hmo, hbo, hA, hB, hns, hrm⟩ := hx
  unfold St.cells
  dsimp only at *
  obtain ⟨rfl⟩ := hk
  go_enter Try.func19, Try.ntmps19
  go_wp2_with fail
  refine (size_calls _ _).mono ?_
  rintro e w1 ⟨rfl, c1⟩
  have hz : sz 14 = 0 := rfl
  rw [hz]
  have k0 : w1.cell? ⟨w.heap.size, 0, none⟩ = some (.int .i64 14) := cells_keep c1 0
  have k5 : w1.cell? ⟨w.heap.size, 5, none⟩ = some (.slice B bn bc) := cells_keep c1 5
  have hA := (hA.alloc _).chg0 c1
  have hB := (hB.alloc _).chg0 c1
  have c0 := ((Chg.refl _ w).alloc _).trans c1
  go_wp2_with fail
  refine (ref_freeI _ bn rfl (by unfold U64; omega) _).mono ?_
  rintro e w2 ⟨rfl, c2⟩
  have hB := hB.chg0 c2
  have c2 := c1.trans c2
  have k5 : w2.cell? ⟨w.heap.size, 5, none⟩ = some (.slice B bn bc) := cells_keep c2 5
  go_wp2_with fail
  go_loopw [4, 6] (fun sv iv wr => ∃ k : Nat, k ≤ bn ∧ iv = .int .i64 k ∧ sv = S (Pk.free bn ++ ((ns.take k).map Pk.free).flatten) ∧ (((ns.take k).map Pk.free).flatten).length ≤ 10 * k ∧ Chg (fun _ => False) w2 wr) (fun _ iv _ => bn - (intOf iv).toNat)
  case atStart => exact ⟨0, by omega, rfl, by simp, by simp, Chg.refl _ _⟩
  case round =>
    obtain ⟨k, hk, rfl, rfl, hlen, hc⟩ := hrel
    have k5 : wr.cell? ⟨w.heap.size, 5, none⟩ = some (.slice B bn bc) := cells_keep (c2.trans hc) 5
    by_cases hp : k < bn
    · obtain ⟨b, off, u, rfl, hu, hcell⟩ := (hB.chg0 hc).at_ hp
      have hpk : k < ns.length := by rw [hnl.out]; exact hp
      obtain ⟨l, hlk, hd⟩ := drop_at ns hpk
      have : u = .int .u64 l := by
        simp only [u64s, List.getElem?_map, hlk, Option.map_some, Option.some.injEq] at hu
        exact hu.symm
      subst this
      have hl := hns l (List.mem_of_getElem? hlk)
      have hl10 := Pk.free_length_ten hl
      have hb10 := free_len bn (by omega)
      have htk : ((ns.take (k + 1)).map Pk.free).flatten = ((ns.take k).map Pk.free).flatten ++ Pk.free l := by rw [List.take_add_one, hlk]; simp
      have hadd := fun w => add_S (Pk.free bn ++ ((ns.take k).map Pk.free).flatten) (Pk.free l) (by rw [List.length_append]; omega) w
      have hlen' : (((ns.take (k + 1)).map Pk.free).flatten).length ≤ 10 * (k + 1) := by rw [htk, List.length_append]; omega
      have Htk := Lib.hid htk
      clear hu hlk hd htk hpk hlen
      generalize hX : Pk.free bn ++ ((ns.take k).map Pk.free).flatten = X at hadd ⊢
      have HX := Lib.hid hX
      clear hX
      go_wp2_with fail
      refine (ref_freeI _ l rfl hl _).mono ?_
      rintro e w3 ⟨rfl, c3⟩
      go_wp2_with fail
      go_roundw
      case rel => exact ⟨k + 1, by omega, by go_num, by rw [Htk.out, ← List.append_assoc, HX.out], hlen', hc.trans c3⟩
      case measure => simp [intOf]; omega
    · obtain rfl : k = bn := by omega
      have hfin : Pk.free k ++ ((ns.take k).map Pk.free).flatten = Pk.free k ++ (ns.map Pk.free).flatten := by rw [List.take_of_length_le (by rw [hnl.out]; omega)]
      have Hfin := Lib.hid hfin
      clear hfin
      go_wp2_with fail
      go_ret
      exact ⟨ret_S Hfin.out, (((Chg.refl _ w).alloc _).trans c2).trans hc⟩

set_option maxHeartbeats 1000000 in
set_option maxRecDepth 100000 in
theorem laid_13 (x : St) (w : World) (hx : x.Ok w) (hk : Hid (x.kind = 13)) :
    Calls Try.prog 19 #[.agg x.cells] w fun e w' => e = .returned (S ((dig x.s).take (wd x.width))) ∧ Chg (fun _ => False) w w' := by
  have hpl := Lib.hid hx.pl
  have hnl := Lib.hid hx.nl
  obtain ⟨kind, n, i, s, A, an, ac, parts, B, bn, bc, ns, width, most, bound⟩ := x
  obtain ⟨hn, hi, hkk, hwd, hmo, hbo, hA, hB, hns, hrm⟩ := hx
  unfold St.cells
  dsimp only at *
  obtain ⟨rfl⟩ := hk
  go_enter Try.func19, Try.ntmps19
  go_wp2_with fail
  refine (size_calls _ _).mono ?_
  rintro e w1 ⟨rfl, c1⟩
  have hz : sz 13 = 0 := rfl
  rw [hz]
  have k0 : w1.cell? ⟨w.heap.size, 0, none⟩ = some (.int .i64 13) := cells_keep c1 0
  have k3 : w1.cell? ⟨w.heap.size, 3, none⟩ = some (S s) := cells_keep c1 3
  have k6 : w1.cell? ⟨w.heap.size, 6, none⟩ = some (.int .i64 width) := cells_keep c1 6
  have hA := (hA.alloc _).chg0 c1
  have hB := (hB.alloc _).chg0 c1
  have c0 := ((Chg.refl _ w).alloc _).trans c1
  go_wp2_with fail
  go_region_with (first
    | (go_at_call 57; refine (digest_calls s _ (by omega)).mono ?_; rintro e w2 ⟨rfl, c2⟩; have a6 := cells_keep (c1.drew.trans c2) 6; have a3 := cells_keep (c1.drew.trans c2) 3)
    | (go_at_call 65; refine (ref_digest width (dig s) _ (dig_length s)).mono ?_; rintro e w3 ⟨rfl, c3⟩))
  all_goals (go_wp2_with fail; go_ret; exact ⟨rfl, (c0.drew.trans c2).trans c3⟩)

set_option maxHeartbeats 1000000 in
set_option maxRecDepth 100000 in
theorem laid_no (x : St) (w : World) (hx : x.Ok w) (hk : ∀ k : Nat, k ≤ 16 → x.kind ≠ k) :
    Calls Try.prog 19 #[.agg x.cells] w fun e w' => e = .returned (S (([] : List UInt8))) ∧ Chg (fun _ => False) w w' := by
  have hpl := Lib.hid hx.pl
  have hnl := Lib.hid hx.nl
  obtain ⟨kind, n, i, s, A, an, ac, parts, B, bn, bc, ns, width, most, bound⟩ := x
  obtain ⟨hn, hi, hkk, hwd, hmo, hbo, hA, hB, hns, hrm⟩ := hx
  unfold St.cells
  dsimp only at *
  have hno : kind < 0 ∨ 8 < kind := by have := hk 0 (by omega); have := hk 1 (by omega); have := hk 2 (by omega); have := hk 3 (by omega); have := hk 4 (by omega); have := hk 5 (by omega); have := hk 6 (by omega); have := hk 7 (by omega); have := hk 8 (by omega); omega
  have q0 : (kind == 0) = false := by rw [beq_eq_false_iff_ne]; exact hk 0 (by omega)
  have q1 : (kind == 1) = false := by rw [beq_eq_false_iff_ne]; exact hk 1 (by omega)
  have q2 : (kind == 2) = false := by rw [beq_eq_false_iff_ne]; exact hk 2 (by omega)
  have q3 : (kind == 3) = false := by rw [beq_eq_false_iff_ne]; exact hk 3 (by omega)
  have q4 : (kind == 4) = false := by rw [beq_eq_false_iff_ne]; exact hk 4 (by omega)
  have q5 : (kind == 5) = false := by rw [beq_eq_false_iff_ne]; exact hk 5 (by omega)
  have q6 : (kind == 6) = false := by rw [beq_eq_false_iff_ne]; exact hk 6 (by omega)
  have q7 : (kind == 7) = false := by rw [beq_eq_false_iff_ne]; exact hk 7 (by omega)
  have q8 : (kind == 8) = false := by rw [beq_eq_false_iff_ne]; exact hk 8 (by omega)
  have q9 : (kind == 9) = false := by rw [beq_eq_false_iff_ne]; exact hk 9 (by omega)
  have q10 : (kind == 10) = false := by rw [beq_eq_false_iff_ne]; exact hk 10 (by omega)
  have q11 : (kind == 11) = false := by rw [beq_eq_false_iff_ne]; exact hk 11 (by omega)
  have q12 : (kind == 12) = false := by rw [beq_eq_false_iff_ne]; exact hk 12 (by omega)
  have q13 : (kind == 13) = false := by rw [beq_eq_false_iff_ne]; exact hk 13 (by omega)
  have q14 : (kind == 14) = false := by rw [beq_eq_false_iff_ne]; exact hk 14 (by omega)
  have q15 : (kind == 15) = false := by rw [beq_eq_false_iff_ne]; exact hk 15 (by omega)
  have q16 : (kind == 16) = false := by rw [beq_eq_false_iff_ne]; exact hk 16 (by omega)
  clear hk
  go_enter Try.func19, Try.ntmps19
  go_wp2_with fail
  refine (size_calls _ _).mono ?_
  rintro e w1 ⟨rfl, c1⟩
  have hz : sz kind = 0 := by unfold sz; rw [if_pos hno]
  rw [hz]
  clear hno
  have k0 : w1.cell? ⟨w.heap.size, 0, none⟩ = some (.int .i64 kind) := cells_keep c1 0
  have hA := (hA.alloc _).chg0 c1
  have hB := (hB.alloc _).chg0 c1
  have c0 := ((Chg.refl _ w).alloc _).trans c1
  go_wp2_with fail
  go_ret
  exact ⟨rfl, c0⟩

theorem laid_calls (x : St) (w : World) (hx : x.Ok w) :
    Calls Try.prog 19 #[.agg x.cells] w fun e w' => e = .returned (S x.bytes) ∧ Chg (fun _ => False) w w' := by
  by_cases hno : x.kind < 0 ∨ 16 < x.kind
  · rw [St.bytes_no hno]
    exact laid_no x w hx (fun k hk => by omega)
  · obtain ⟨k, hk⟩ : ∃ k : Nat, x.kind = k := ⟨x.kind.toNat, by omega⟩
    have hk16 : k ≤ 16 := by omega
    match k, hk16 with
    | 0, _ =>
      have hb : x.bytes = Pk.be 1 x.n := by unfold St.bytes; rw [if_neg hno, hk]; rfl
      rw [hb]
      exact laid_0 x w hx (Lib.hid hk)
    | 1, _ =>
      have hb : x.bytes = Pk.be 2 x.n := by unfold St.bytes; rw [if_neg hno, hk]; rfl
      rw [hb]
      exact laid_1 x w hx (Lib.hid hk)
    | 2, _ =>
      have hb : x.bytes = Pk.be 4 x.n := by unfold St.bytes; rw [if_neg hno, hk]; rfl
      rw [hb]
      exact laid_2 x w hx (Lib.hid hk)
    | 3, _ =>
      have hb : x.bytes = Pk.be 8 x.n := by unfold St.bytes; rw [if_neg hno, hk]; rfl
      rw [hb]
      exact laid_3 x w hx (Lib.hid hk)
    | 4, _ =>
      have hb : x.bytes = Pk.be 1 x.n := by unfold St.bytes; rw [if_neg hno, hk]; rfl
      rw [hb]
      exact laid_4 x w hx (Lib.hid hk)
    | 5, _ =>
      have hb : x.bytes = Pk.be 2 x.n := by unfold St.bytes; rw [if_neg hno, hk]; rfl
      rw [hb]
      exact laid_5 x w hx (Lib.hid hk)
    | 6, _ =>
      have hb : x.bytes = Pk.be 4 x.n := by unfold St.bytes; rw [if_neg hno, hk]; rfl
      rw [hb]
      exact laid_6 x w hx (Lib.hid hk)
    | 7, _ =>
      have hb : x.bytes = Pk.be 8 x.n := by unfold St.bytes; rw [if_neg hno, hk]; rfl
      rw [hb]
      exact laid_7 x w hx (Lib.hid hk)
    | 8, _ =>
      have hb : x.bytes = Pk.be 2 x.n := by unfold St.bytes; rw [if_neg hno, hk]; rfl
      rw [hb]
      exact laid_8 x w hx (Lib.hid hk)
    | 9, _ =>
      have hb : x.bytes = Pk.free x.n := by unfold St.bytes; rw [if_neg hno, hk]; rfl
      rw [hb]
      exact laid_9 x w hx (Lib.hid hk)
    | 10, _ =>
      have hb : x.bytes = Pk.free (Pk.zig x.i) := by unfold St.bytes; rw [if_neg hno, hk]; rfl
      rw [hb]
      exact laid_10 x w hx (Lib.hid hk)
    | 11, _ =>
      have hb : x.bytes = x.parts.flatten := by unfold St.bytes; rw [if_neg hno, hk]; rfl
      rw [hb]
      exact laid_11 x w hx (Lib.hid hk)
    | 12, _ =>
      have hb : x.bytes = (Pk.free x.s.length ++ x.s) := by unfold St.bytes; rw [if_neg hno, hk]; rfl
      rw [hb]
      exact laid_12 x w hx (Lib.hid hk)
    | 13, _ =>
      have hb : x.bytes = (dig x.s).take (wd x.width) := by unfold St.bytes; rw [if_neg hno, hk]; rfl
      rw [hb]
      exact laid_13 x w hx (Lib.hid hk)
    | 14, _ =>
      have hb : x.bytes = (Pk.free x.bn ++ (x.ns.map Pk.free).flatten) := by unfold St.bytes; rw [if_neg hno, hk]; rfl
      rw [hb]
      exact laid_14 x w hx (Lib.hid hk)
    | 15, _ =>
      have hb : x.bytes = (Pk.free x.an ++ (x.parts.map Pk.text).flatten) := by unfold St.bytes; rw [if_neg hno, hk]; rfl
      rw [hb]
      exact laid_15 x w hx (Lib.hid hk)
    | 16, _ =>
      have hb : x.bytes = (Pk.free x.an ++ (x.parts.map Pk.text).flatten) := by unfold St.bytes; rw [if_neg hno, hk]; rfl
      rw [hb]
      exact laid_16 x w hx (Lib.hid hk)
    | _ + 17, h => exact absurd h (by omega)
end Go.Proofs.Ytkajbpdhglaieaa
