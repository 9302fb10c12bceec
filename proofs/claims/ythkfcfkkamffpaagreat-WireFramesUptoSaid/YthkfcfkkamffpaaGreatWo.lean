/-
  Layer 27: the functions that tell a field's place; pairs, steps, digests one by one. Printed by gen_wo.py.
-/
import Derived.Test.YthkfcfkkamffpaaGreatWn
namespace Go.Proofs.YthkfcfkkamffpaaGreat
open Go.RowKit
set_option linter.unusedVariables false
set_option linter.unusedSimpArgs false
open Wm (M Fd)
attribute [local go_sem ↓] ld_dig st_dig

set_option maxRecDepth 100000 in
theorem tells_from1 : Tells 102 7 where
  run := fun _ _ => by kernel_rfl
  calls := fun gm w => by
    go_enter Tryz.func102, Tryz.ntmps102
    go_wp2_with fail
    go_ret
    exact ⟨rfl, rfl⟩

set_option maxRecDepth 100000 in
theorem tells_key1 : Tells 104 3 where
  run := fun _ _ => by kernel_rfl
  calls := fun gm w => by
    go_enter Tryz.func104, Tryz.ntmps104
    go_wp2_with fail
    go_ret
    exact ⟨rfl, rfl⟩

set_option maxRecDepth 100000 in
theorem tells_to1 : Tells 105 4 where
  run := fun _ _ => by kernel_rfl
  calls := fun gm w => by
    go_enter Tryz.func105, Tryz.ntmps105
    go_wp2_with fail
    go_ret
    exact ⟨rfl, rfl⟩

set_option maxRecDepth 100000 in
theorem tells_val1 : Tells 109 5 where
  run := fun _ _ => by kernel_rfl
  calls := fun gm w => by
    go_enter Tryz.func109, Tryz.ntmps109
    go_wp2_with fail
    go_ret
    exact ⟨rfl, rfl⟩

set_option maxRecDepth 100000 in
theorem tells_size1 : Tells 110 8 where
  run := fun _ _ => by kernel_rfl
  calls := fun gm w => by
    go_enter Tryz.func110, Tryz.ntmps110
    go_wp2_with fail
    go_ret
    exact ⟨rfl, rfl⟩

set_option maxRecDepth 100000 in
theorem tells_found1 : Tells 150 9 where
  run := fun _ _ => by kernel_rfl
  calls := fun gm w => by
    go_enter Tryz.func150, Tryz.ntmps150
    go_wp2_with fail
    go_ret
    exact ⟨rfl, rfl⟩

set_option maxRecDepth 100000 in
theorem tells_told2 : Tells 133 10 where
  run := fun _ _ => by kernel_rfl
  calls := fun gm w => by
    go_enter Tryz.func133, Tryz.ntmps133
    go_wp2_with fail
    go_ret
    exact ⟨rfl, rfl⟩

set_option maxRecDepth 100000 in
theorem tells_data1 : Tells 179 83 where
  run := fun _ _ => by kernel_rfl
  calls := fun gm w => by
    go_enter Tryz.func179, Tryz.ntmps179
    go_wp2_with fail
    go_ret
    exact ⟨rfl, rfl⟩

set_option maxRecDepth 100000 in
theorem tells_trail1 : Tells 163 79 where
  run := fun _ _ => by kernel_rfl
  calls := fun gm w => by
    go_enter Tryz.func163, Tryz.ntmps163
    go_wp2_with fail
    go_ret
    exact ⟨rfl, rfl⟩

set_option maxRecDepth 100000 in
theorem tells_since1 : Tells 165 80 where
  run := fun _ _ => by kernel_rfl
  calls := fun gm w => by
    go_enter Tryz.func165, Tryz.ntmps165
    go_wp2_with fail
    go_ret
    exact ⟨rfl, rfl⟩

set_option maxRecDepth 100000 in
theorem tells_told1 : Tells 128 81 where
  run := fun _ _ => by kernel_rfl
  calls := fun gm w => by
    go_enter Tryz.func128, Tryz.ntmps128
    go_wp2_with fail
    go_ret
    exact ⟨rfl, rfl⟩

set_option maxRecDepth 100000 in
theorem tells_parts1 : Tells 91 82 where
  run := fun _ _ => by kernel_rfl
  calls := fun gm w => by
    go_enter Tryz.func91, Tryz.ntmps91
    go_wp2_with fail
    go_ret
    exact ⟨rfl, rfl⟩

set_option maxRecDepth 100000 in
theorem gets_limit : Gets 107 6 where
  run := fun _ _ => by kernel_rfl
  calls := fun gm n w hc => by
    go_enter Tryz.func107, Tryz.ntmps107
    go_wp2_with fail
    go_ret
    exact ⟨rfl, rfl⟩
set_option maxRecDepth 100000 in
theorem sets_limit : Sets 108 6 where
  run := fun _ _ => by kernel_rfl
  calls := fun gm n cs w hg ho => by
    have f0 := hg.frozen 6
    have c0 : ∃ u, w.cell? ⟨gm, 6, none⟩ = some u := ⟨_, by rw [hg.cell]; exact Array.getElem?_eq_getElem ho⟩
    obtain ⟨u0, c0⟩ := c0
    clear hg ho
    go_enter Tryz.func108, Tryz.ntmps108
    go_wp2_with fail
    go_end0
    exact ⟨rfl, rfl⟩

set_option maxRecDepth 100000 in
theorem gets_code : Gets 151 2 where
  run := fun _ _ => by kernel_rfl
  calls := fun gm n w hc => by
    go_enter Tryz.func151, Tryz.ntmps151
    go_wp2_with fail
    go_ret
    exact ⟨rfl, rfl⟩
set_option maxRecDepth 100000 in
theorem sets_code : Sets 152 2 where
  run := fun _ _ => by kernel_rfl
  calls := fun gm n cs w hg ho => by
    have f0 := hg.frozen 2
    have c0 : ∃ u, w.cell? ⟨gm, 2, none⟩ = some u := ⟨_, by rw [hg.cell]; exact Array.getElem?_eq_getElem ho⟩
    obtain ⟨u0, c0⟩ := c0
    clear hg ho
    go_enter Tryz.func152, Tryz.ntmps152
    go_wp2_with fail
    go_end0
    exact ⟨rfl, rfl⟩

set_option maxHeartbeats 1000000 in
set_option maxRecDepth 100000 in
theorem layStep_calls (g : Nat) (n : Int) (v : Value) (xs : List UInt8) (w : World) (h : IsW w g v xs) (h0 : 0 ≤ n) (h1 : I64 n) (hroom : xs.length + (Pk.free n.toNat).length ≤ 1000000000) :
    Calls Tryz.prog 92 #[pt g, .int .i64 n] w fun e w' => e = .returned (.tuple #[]) ∧ Wrote w w' g v (xs ++ Pk.free n.toNat) := by
  obtain ⟨k, rfl⟩ := Int.eq_ofNat_of_zero_le h0
  rw [Int.toNat_natCast] at hroom ⊢
  have hU : U64 k := by unfold I64 at h1; unfold U64; omega
  have hcv : IntKind.u64.wrap (k : Int) = (k : Int) := by rw [IntKind.wrap_u64]; unfold U64 at hU; omega
  have HT := Lib.hid (free_calls g k v xs w h hU (by omega))
  clear hroom h0 h1 hU
  go_enter Tryz.func92, Tryz.ntmps92
  go_wp2_with fail
  refine HT.out.mono ?_
  rintro e w6 ⟨rfl, hw⟩
  go_wp2_with fail
  go_end0
  exact ⟨rfl, hw⟩

set_option maxHeartbeats 1000000 in
set_option maxRecDepth 100000 in
theorem takeStep_calls (g : Nat) (r : Pk.Rd) (w : World) (h : IsR w g r) :
    Calls Tryz.prog 93 #[pt g] w fun e w' => e = .returned (.int .i64 (r.free 65535).1) ∧ IsR w' g (r.free 65535).2 ∧ Chg (fun k => k = g) w w' := by
  have hle := rfree_most r 65535
  have HT := Lib.hid (rfree_callsI g 65535 65535 r w rfl h)
  obtain ⟨x, hx⟩ : ∃ x, (r.free 65535).1 = x := ⟨_, rfl⟩
  obtain ⟨r2, hr2⟩ : ∃ r2, (r.free 65535).2 = r2 := ⟨_, rfl⟩
  rw [hx, hr2] at HT
  rw [hx] at hle
  rw [hx, hr2]
  have e2 : IntKind.i64.wrap (x : Int) = (x : Int) := IntWalk.i64_in _ (by omega)
  clear hx hr2
  go_enter Tryz.func93, Tryz.ntmps93
  go_wp2_with fail
  refine HT.out.mono ?_
  rintro e w6 ⟨rfl, hred⟩
  go_wp2_with fail
  go_ret
  exact ⟨rfl, hred.1, hred.2⟩

set_option maxHeartbeats 1000000 in
set_option maxRecDepth 100000 in
theorem step_calls (n : Int) (w : World) :
    Calls Tryz.prog 94 #[.int .i64 n] w fun e w' => e = .returned (.bool (decide (0 ≤ n ∧ n ≤ 65535))) ∧ Chg (fun _ => False) w w' := by
  by_cases h1 : 0 ≤ n
  · have d1 : decide (0 ≤ n) = true := decide_eq_true h1
    have e : decide (0 ≤ n ∧ n ≤ 65535) = decide (n ≤ 65535) := by simp [h1]
    rw [e]
    clear e
    go_enter Tryz.func94, Tryz.ntmps94
    go_wp2_with fail
    go_ret
    exact ⟨rfl, Chg.refl _ _⟩
  · have d1 : decide (0 ≤ n) = false := decide_eq_false h1
    have e : decide (0 ≤ n ∧ n ≤ 65535) = false := by simp [h1]
    rw [e]
    clear e h1
    go_enter Tryz.func94, Tryz.ntmps94
    go_wp2_with fail
    go_ret
    exact ⟨rfl, Chg.refl _ _⟩

set_option maxHeartbeats 1000000 in
set_option maxRecDepth 100000 in
theorem any1_calls (x : List UInt8) (w : World) :
    Calls Tryz.prog 164 #[.agg (bys x).toArray] w fun e w' => e = .returned (.bool true) ∧ Chg (fun _ => False) w w' := by
  go_enter Tryz.func164, Tryz.ntmps164
  go_wp2_with fail
  go_ret
  exact ⟨rfl, (Chg.refl _ w).alloc _⟩

theorem info_pairz : (Tryz.prog.info? 75).map (·.size) = some 2 := by kernel_rfl
def pairB (p : List UInt8 × List UInt8) : List UInt8 := (Pk.free p.1.length ++ p.1) ++ (Pk.free p.2.length ++ p.2)
set_option maxHeartbeats 2000000 in
set_option maxRecDepth 100000 in
theorem layPair_calls (g : Nat) (p : List UInt8 × List UInt8) (v : Value) (xs : List UInt8) (w : World) (h : IsW w g v xs) (hroom : xs.length + (pairB p).length ≤ 1000000000) :
    Calls Tryz.prog 129 #[pt g, .agg #[S p.1, S p.2]] w fun e w' => e = .returned (.tuple #[]) ∧ Wrote w w' g v (xs ++ pairB p) := by
  obtain ⟨a, b⟩ := p
  simp only
  unfold pairB at hroom ⊢
  simp only at hroom ⊢
  have hroom1 : xs.length + (Pk.free a.length).length + a.length ≤ 140737488355328 := by simp at hroom; omega
  have hroom2 : (xs ++ (Pk.free a.length ++ a)).length + (Pk.free b.length).length + b.length ≤ 140737488355328 := by simp at hroom; simp; omega
  have hlg := h.blk.lt
  have hb := Blk.new w 75 #[S a, S b]
  have hnew : ∀ k, v.ownBlock = some k → k ≠ w.heap.size := fun k hk e => by have := (h.own.lt k hk).2; omega
  have HT := Lib.hid (text_calls g a v xs _ ⟨h.blk.alloc (.cells #[S a, S b] 75), h.own.alloc _⟩ hroom1)
  have HB := Lib.hid hb
  clear hroom hroom1 hb
  go_enter Tryz.func129, Tryz.ntmps129
  go_wp2_with fail
  refine HT.out.mono ?_
  rintro e w6 ⟨rfl, v1, h1, hc1, hv1⟩
  have hb6 := (HB.out).chg hc1 (fun e => e.elim (fun e => by omega) (fun e => hnew _ e rfl))
  have c1 : w6.cell? ⟨w.heap.size, 1, none⟩ = some (S b) := by rw [hb6.cell]; rfl
  have HT2 := Lib.hid (text_calls g b v1 _ w6 h1 hroom2)
  have Hc1 := Lib.hid hc1
  have Hv1 := Lib.hid hv1
  clear hroom2 hc1 hv1 hb6
  go_wp2_with fail
  refine HT2.out.mono ?_
  rintro e w7 ⟨rfl, hw7⟩
  go_wp2_with fail
  go_end0
  have := wrote_then (((Chg.refl (fun k => k = g ∨ v.ownBlock = some k) w).alloc _).trans Hc1.out) (fun k hk => ((Hv1.out) k hk).imp id (fun e => by simp at e; omega)) hw7
  refine ⟨rfl, ?_⟩
  rw [← List.append_assoc]
  exact this

set_option maxHeartbeats 1000000 in
set_option maxRecDepth 100000 in
theorem takePair_calls (g : Nat) (r : Pk.Rd) (w : World) (h : IsR w g r) :
    Calls Tryz.prog 130 #[pt g] w fun e w' => e = .returned (.agg #[S (r.text 1024).1, S ((r.text 1024).2.text 1024).1]) ∧ IsR w' g ((r.text 1024).2.text 1024).2 ∧ Chg (fun k => k = g) w w' := by
  have hlg := h.blk.lt
  have HT := Lib.hid (rtext_calls g 1024 r _ (h.alloc (.cells #[S [], S []] 75)) (by unfold I64; omega))
  have hb := Blk.new w 75 #[S [], S []]
  obtain ⟨x, hx⟩ : ∃ x, (r.text 1024).1 = x := ⟨_, rfl⟩
  obtain ⟨r2, hr2⟩ : ∃ r2, (r.text 1024).2 = r2 := ⟨_, rfl⟩
  rw [hx, hr2] at HT
  rw [hx, hr2]
  obtain ⟨y, hy⟩ : ∃ y, (r2.text 1024).1 = y := ⟨_, rfl⟩
  obtain ⟨r3, hr3⟩ : ∃ r3, (r2.text 1024).2 = r3 := ⟨_, rfl⟩
  rw [hy, hr3]
  have Hxy := Lib.hid (show (r2.text 1024).1 = y ∧ (r2.text 1024).2 = r3 from ⟨hy, hr3⟩)
  clear hx hr2 hy hr3
  go_enter Tryz.func130, Tryz.ntmps130
  go_wp2_with fail
  refine HT.out.mono ?_
  rintro e w6 ⟨rfl, hred⟩
  have hb6 := hb.chg hred.2 (fun e => by omega)
  have c0 : w6.cell? ⟨w.heap.size, 0, none⟩ = some (S []) := by rw [hb6.cell]; rfl
  have c1 : w6.cell? ⟨w.heap.size, 1, none⟩ = some (S []) := by rw [hb6.cell]; rfl
  have f0 := hb6.frozen 0
  have f1 := hb6.frozen 1
  have hb7 := hb6.set_ 0 (S x)
  have hc7 : Chg (fun k => k = g) w (w6.setCell ⟨w.heap.size, 0, none⟩ (S x)) := (((Chg.refl (fun k => k = g) w).alloc _).trans hred.2).setCell (p := ⟨w.heap.size, 0, none⟩) (.inr (Nat.le_refl _)) _
  have HT2 := rtext_calls g 1024 r2 (w6.setCell ⟨w.heap.size, 0, none⟩ (S x)) ⟨hred.1.blk.far (show g ≠ w.heap.size by omega) _, hred.1.le, hred.1.len⟩ (by unfold I64; omega)
  rw [Hxy.out.1, Hxy.out.2] at HT2
  have HT9 := Lib.hid HT2
  have Hb7 := Lib.hid hb7
  have Hc7 := Lib.hid hc7
  clear hb hb6 hred HT hb7 hc7 HT2
  go_wp2_with fail
  refine HT9.out.mono ?_
  rintro e w8 ⟨rfl, hred8⟩
  have hb8 := (Hb7.out).chg hred8.2 (fun e => by omega)
  have c0 : w8.cell? ⟨w.heap.size, 0, none⟩ = some (S x) := by rw [hb8.cell]; rfl
  have c1 : w8.cell? ⟨w.heap.size, 1, none⟩ = some (S []) := by rw [hb8.cell]; rfl
  have f0 := hb8.frozen 0
  have f1 := hb8.frozen 1
  have Hb8 := Lib.hid hb8
  have Hred8 := Lib.hid hred8
  clear hb8 hred8 HT9 Hb7 f0 f1
  have f0 := Hb8.out.frozen 0
  have f1 := Hb8.out.frozen 1
  go_wp2_with fail
  have hbz : Blk (((w8.setCell ⟨w.heap.size, 1, none⟩ (S y)).setCell ⟨w.heap.size, 0, none⟩ (S x)).setCell ⟨w.heap.size, 1, none⟩ (S y)) w.heap.size 75 #[S x, S y] := ((Hb8.out.set_ 1 (S y)).set_ 0 (S x)).set_ 1 (S y)
  refine bodyPost_ret (results_cell_row rfl _ _ w.heap.size 75 #[S x, S y] (0, 0) _ rfl hbz Tryz.underlying75 rfl info_pairz) rfl ?_
  refine ⟨rfl, ?_, ?_⟩
  · exact ⟨((((Hred8.out).1.blk.far (show g ≠ w.heap.size by omega) _).far (show g ≠ w.heap.size by omega) _).far (show g ≠ w.heap.size by omega) _), (Hred8.out).1.le, (Hred8.out).1.len⟩
  · exact ((((Hc7.out).trans (Hred8.out).2).setCell (p := ⟨w.heap.size, 1, none⟩) (.inr (Nat.le_refl _)) _).setCell (p := ⟨w.heap.size, 0, none⟩) (.inr (Nat.le_refl _)) _).setCell (p := ⟨w.heap.size, 1, none⟩) (.inr (Nat.le_refl _)) _

set_option maxHeartbeats 1000000 in
set_option maxRecDepth 100000 in
theorem shortPair_calls (p : List UInt8 × List UInt8) (w : World) :
    Calls Tryz.prog 131 #[.agg #[S p.1, S p.2]] w fun e w' => e = .returned (.bool (Wm.short p.1 && Wm.short p.2)) ∧ Chg (fun _ => False) w w' := by
  obtain ⟨a, b⟩ := p
  simp only
  have ea : Wm.short a = decide ((a.length : Int) ≤ 1024) := by unfold Wm.short; rw [decide_eq_decide]; omega
  have eb : Wm.short b = decide ((b.length : Int) ≤ 1024) := by unfold Wm.short; rw [decide_eq_decide]; omega
  rw [ea, eb]
  clear ea eb
  by_cases h1 : (a.length : Int) ≤ 1024
  · have d1 : decide ((a.length : Int) ≤ 1024) = true := decide_eq_true h1
    rw [d1, Bool.true_and]
    go_enter Tryz.func131, Tryz.ntmps131
    go_wp2_with fail
    go_ret
    exact ⟨rfl, (Chg.refl _ w).alloc _⟩
  · have d1 : decide ((a.length : Int) ≤ 1024) = false := decide_eq_false h1
    rw [d1, Bool.false_and]
    clear h1
    go_enter Tryz.func131, Tryz.ntmps131
    go_wp2_with fail
    go_ret
    exact ⟨rfl, (Chg.refl _ w).alloc _⟩
end Go.Proofs.YthkfcfkkamffpaaGreat
