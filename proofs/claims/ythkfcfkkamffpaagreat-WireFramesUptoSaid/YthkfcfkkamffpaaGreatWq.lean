/-
  Layer 27: the parts made; a kind's parts. Printed by gen_wq.py.
-/
import Derived.Test.YthkfcfkkamffpaaGreatWp
namespace Go.Proofs.YthkfcfkkamffpaaGreat
open Go.RowKit
set_option linter.unusedVariables false
set_option linter.unusedSimpArgs false
open Wm (M)
theorem info_part : (Tryz.prog.info? 88).map (·.size) = some 4 := by kernel_rfl
theorem st_part (v x : Value) : Instr.storeAt 88 v x = stAgg 88 v x := rfl
attribute [local go_sem ↓] st_part
theorem st_p {w : World} {g : Nat} {cs : Array Value} (hb : Blk w g 88 cs) (hs : cs.size = 4) (F0 F1 F2 F3 : Fn) (c0 c1 c2 c3 : Array Value) :
    (stAgg 88 (.pointer (some ⟨g, 0, none⟩)) (.agg #[.func F0 #[] c0, .func F1 #[] c1, .func F2 #[] c2, .func F3 #[] c3])).run Tryz.prog w = .ok () (w.setRow g #[.func F0 #[] c0, .func F1 #[] c1, .func F2 #[] c2, .func F3 #[] c3]) := by
  have := stAgg_of (P := Tryz.prog) (t := 88) (off := 0) (cs := #[.func F0 #[] c0, .func F1 #[] c1, .func F2 #[] c2, .func F3 #[] c3]) hb info_part (by simp [hs]) (by simp [Value.oneCell'])
  rw [List.drop_eq_nil_of_le (by simp [hs])] at this
  simpa using this
/-- the part's boxes, all of them at or above base -/
def IsPart (w : World) (base : Nat) (c : Wm.Fd) (bs : List Nat) : Prop := PartAt w c bs ∧ ∀ i, i < (boxV c).length → base ≤ bs.getD i 0
theorem IsPart.chg {Q : Nat → Prop} {w w' : World} {base : Nat} {c : Wm.Fd} {bs : List Nat} (h : IsPart w base c bs) (hc : Chg Q w w') (hq : ∀ b, base ≤ b → ¬ Q b) : IsPart w' base c bs :=
  ⟨h.1.chg hc (fun i hi => hq _ (h.2 i hi)), h.2⟩
theorem IsPart.low {w : World} {base base' : Nat} {c : Wm.Fd} {bs : List Nat} (h : IsPart w base c bs) (hb : base' ≤ base) : IsPart w base' c bs := ⟨h.1, fun i hi => Nat.le_trans hb (h.2 i hi)⟩

set_option maxHeartbeats 1000000 in
set_option maxRecDepth 100000 in
theorem mk_text (F : FuncId) (most : Int) (w : World) : Calls Tryz.prog 103 #[fn0 F, .int .i64 most] w fun e w' => ∃ bs : List Nat, e = .returned (.agg #[.func (.func 139) #[] (caps bs [0]), .func (.func 141) #[] (caps bs [1, 0]), .func (.func 143) #[] (caps bs [0]), .func (.func 144) #[] (caps bs [0, 1])]) ∧
    (∀ i v, [(fn0 F : Value), (.int .i64 most : Value)][i]? = some v → w'.cell? ⟨bs.getD i 0, 0, none⟩ = some v) ∧ (∀ i, i < 2 → w.heap.size ≤ bs.getD i 0) ∧ Chg (fun _ => False) w w' := by
  have b0 : Blk (((w.alloc (.cells #[fn0 F] 153)).alloc (.cells #[.int .i64 most] 3)).alloc (.cells #[.nilFunc, .nilFunc, .nilFunc, .nilFunc] 88)) (w.heap.size) 153 #[fn0 F] := by
    have := ((Blk.new w 153 #[fn0 F]).alloc (.cells #[.int .i64 most] 3)).alloc (.cells #[.nilFunc, .nilFunc, .nilFunc, .nilFunc] 88)
    simpa using this
  have b1 : Blk (((w.alloc (.cells #[fn0 F] 153)).alloc (.cells #[.int .i64 most] 3)).alloc (.cells #[.nilFunc, .nilFunc, .nilFunc, .nilFunc] 88)) (w.heap.size + 1) 3 #[.int .i64 most] := by
    have := (Blk.new (w.alloc (.cells #[fn0 F] 153)) 3 #[.int .i64 most]).alloc (.cells #[.nilFunc, .nilFunc, .nilFunc, .nilFunc] 88)
    simpa using this
  have bz : Blk (((w.alloc (.cells #[fn0 F] 153)).alloc (.cells #[.int .i64 most] 3)).alloc (.cells #[.nilFunc, .nilFunc, .nilFunc, .nilFunc] 88)) (w.heap.size + 1 + 1) 88 #[.nilFunc, .nilFunc, .nilFunc, .nilFunc] := by
    have := Blk.new ((w.alloc (.cells #[fn0 F] 153)).alloc (.cells #[.int .i64 most] 3)) 88 #[.nilFunc, .nilFunc, .nilFunc, .nilFunc]
    simpa using this
  have hst := st_p bz rfl
  have B0 := Lib.hid b0
  have B1 := Lib.hid b1
  have BZ := Lib.hid bz
  clear bz b0 b1
  go_enter Tryz.func103, Tryz.ntmps103
  go_wp2_with fail
  refine bodyPost_ret (results_cell_row rfl _ _ (w.heap.size + 1 + 1) 88 _ (0, 0) _ rfl (Blk.setRow BZ.out _) Tryz.underlying88 rfl info_part) rfl ?_
  refine ⟨[w.heap.size, w.heap.size + 1], rfl, ?_, ?_, (Chg.setRow ((((Chg.refl _ w).alloc _).alloc _).alloc _) (.inr (by omega)) _)⟩
  · intro i v hv
    match i, hv with
    | 0, hv => cases (show some _ = some v from hv); exact ((B0.out).setRow_far (g' := w.heap.size + 1 + 1) (by omega) _).cell 0
    | 1, hv => cases (show some _ = some v from hv); exact ((B1.out).setRow_far (g' := w.heap.size + 1 + 1) (by omega) _).cell 0
    | n + 2, hv => simp at hv
  · intro i hi
    match i, hi with
    | 0, hi => show w.heap.size ≤ w.heap.size; omega
    | 1, hi => show w.heap.size ≤ w.heap.size + 1; omega
    | n + 2, hi => omega

set_option maxHeartbeats 1000000 in
set_option maxRecDepth 100000 in
theorem mk_free (F : FuncId) (w : World) : Calls Tryz.prog 101 #[fn0 F] w fun e w' => ∃ bs : List Nat, e = .returned (.agg #[.func (.func 135) #[] (caps bs [0]), .func (.func 136) #[] (caps bs [0]), .func (.func 137) #[] (caps bs [0]), .func (.func 138) #[] (caps bs [])]) ∧
    (∀ i v, [(fn0 F : Value)][i]? = some v → w'.cell? ⟨bs.getD i 0, 0, none⟩ = some v) ∧ (∀ i, i < 1 → w.heap.size ≤ bs.getD i 0) ∧ Chg (fun _ => False) w w' := by
  have b0 : Blk ((w.alloc (.cells #[fn0 F] 150)).alloc (.cells #[.nilFunc, .nilFunc, .nilFunc, .nilFunc] 88)) (w.heap.size) 150 #[fn0 F] := by
    have := (Blk.new w 150 #[fn0 F]).alloc (.cells #[.nilFunc, .nilFunc, .nilFunc, .nilFunc] 88)
    simpa using this
  have bz : Blk ((w.alloc (.cells #[fn0 F] 150)).alloc (.cells #[.nilFunc, .nilFunc, .nilFunc, .nilFunc] 88)) (w.heap.size + 1) 88 #[.nilFunc, .nilFunc, .nilFunc, .nilFunc] := by
    have := Blk.new (w.alloc (.cells #[fn0 F] 150)) 88 #[.nilFunc, .nilFunc, .nilFunc, .nilFunc]
    simpa using this
  have hst := st_p bz rfl
  have B0 := Lib.hid b0
  have BZ := Lib.hid bz
  clear bz b0
  go_enter Tryz.func101, Tryz.ntmps101
  go_wp2_with fail
  refine bodyPost_ret (results_cell_row rfl _ _ (w.heap.size + 1) 88 _ (0, 0) _ rfl (Blk.setRow BZ.out _) Tryz.underlying88 rfl info_part) rfl ?_
  refine ⟨[w.heap.size], rfl, ?_, ?_, (Chg.setRow (((Chg.refl _ w).alloc _).alloc _) (.inr (by omega)) _)⟩
  · intro i v hv
    match i, hv with
    | 0, hv => cases (show some _ = some v from hv); exact ((B0.out).setRow_far (g' := w.heap.size + 1) (by omega) _).cell 0
    | n + 1, hv => simp at hv
  · intro i hi
    match i, hi with
    | 0, hi => show w.heap.size ≤ w.heap.size; omega
    | n + 1, hi => omega

set_option maxHeartbeats 1000000 in
set_option maxRecDepth 100000 in
theorem mk_truth (F : FuncId) (w : World) : Calls Tryz.prog 132 #[fn0 F] w fun e w' => ∃ bs : List Nat, e = .returned (.agg #[.func (.func 174) #[] (caps bs [0]), .func (.func 176) #[] (caps bs [0]), .func (.func 178) #[] (caps bs [0]), .func (.func 138) #[] (caps bs [])]) ∧
    (∀ i v, [(fn0 F : Value)][i]? = some v → w'.cell? ⟨bs.getD i 0, 0, none⟩ = some v) ∧ (∀ i, i < 1 → w.heap.size ≤ bs.getD i 0) ∧ Chg (fun _ => False) w w' := by
  have b0 : Blk ((w.alloc (.cells #[fn0 F] 169)).alloc (.cells #[.nilFunc, .nilFunc, .nilFunc, .nilFunc] 88)) (w.heap.size) 169 #[fn0 F] := by
    have := (Blk.new w 169 #[fn0 F]).alloc (.cells #[.nilFunc, .nilFunc, .nilFunc, .nilFunc] 88)
    simpa using this
  have bz : Blk ((w.alloc (.cells #[fn0 F] 169)).alloc (.cells #[.nilFunc, .nilFunc, .nilFunc, .nilFunc] 88)) (w.heap.size + 1) 88 #[.nilFunc, .nilFunc, .nilFunc, .nilFunc] := by
    have := Blk.new (w.alloc (.cells #[fn0 F] 169)) 88 #[.nilFunc, .nilFunc, .nilFunc, .nilFunc]
    simpa using this
  have hst := st_p bz rfl
  have B0 := Lib.hid b0
  have BZ := Lib.hid bz
  clear bz b0
  go_enter Tryz.func132, Tryz.ntmps132
  go_wp2_with fail
  refine bodyPost_ret (results_cell_row rfl _ _ (w.heap.size + 1) 88 _ (0, 0) _ rfl (Blk.setRow BZ.out _) Tryz.underlying88 rfl info_part) rfl ?_
  refine ⟨[w.heap.size], rfl, ?_, ?_, (Chg.setRow (((Chg.refl _ w).alloc _).alloc _) (.inr (by omega)) _)⟩
  · intro i v hv
    match i, hv with
    | 0, hv => cases (show some _ = some v from hv); exact ((B0.out).setRow_far (g' := w.heap.size + 1) (by omega) _).cell 0
    | n + 1, hv => simp at hv
  · intro i hi
    match i, hi with
    | 0, hi => show w.heap.size ≤ w.heap.size; omega
    | n + 1, hi => omega

set_option maxHeartbeats 1000000 in
set_option maxRecDepth 100000 in
theorem mk_small (F : FuncId) (G : FuncId) (lo : Int) (hi : Int) (w : World) : Calls Tryz.prog 106 #[fn0 F, fn0 G, .int .i64 lo, .int .i64 hi] w fun e w' => ∃ bs : List Nat, e = .returned (.agg #[.func (.func 145) #[] (caps bs [0]), .func (.func 146) #[] (caps bs [1, 3]), .func (.func 147) #[] (caps bs [1, 0]), .func (.func 148) #[] (caps bs [0, 2, 3])]) ∧
    (∀ i v, [(fn0 F : Value), (fn0 G : Value), (.int .i64 lo : Value), (.int .i64 hi : Value)][i]? = some v → w'.cell? ⟨bs.getD i 0, 0, none⟩ = some v) ∧ (∀ i, i < 4 → w.heap.size ≤ bs.getD i 0) ∧ Chg (fun _ => False) w w' := by
  have b0 : Blk (((((w.alloc (.cells #[fn0 F] 155)).alloc (.cells #[fn0 G] 156)).alloc (.cells #[.int .i64 lo] 3)).alloc (.cells #[.int .i64 hi] 3)).alloc (.cells #[.nilFunc, .nilFunc, .nilFunc, .nilFunc] 88)) (w.heap.size) 155 #[fn0 F] := by
    have := ((((Blk.new w 155 #[fn0 F]).alloc (.cells #[fn0 G] 156)).alloc (.cells #[.int .i64 lo] 3)).alloc (.cells #[.int .i64 hi] 3)).alloc (.cells #[.nilFunc, .nilFunc, .nilFunc, .nilFunc] 88)
    simpa using this
  have b1 : Blk (((((w.alloc (.cells #[fn0 F] 155)).alloc (.cells #[fn0 G] 156)).alloc (.cells #[.int .i64 lo] 3)).alloc (.cells #[.int .i64 hi] 3)).alloc (.cells #[.nilFunc, .nilFunc, .nilFunc, .nilFunc] 88)) (w.heap.size + 1) 156 #[fn0 G] := by
    have := (((Blk.new (w.alloc (.cells #[fn0 F] 155)) 156 #[fn0 G]).alloc (.cells #[.int .i64 lo] 3)).alloc (.cells #[.int .i64 hi] 3)).alloc (.cells #[.nilFunc, .nilFunc, .nilFunc, .nilFunc] 88)
    simpa using this
  have b2 : Blk (((((w.alloc (.cells #[fn0 F] 155)).alloc (.cells #[fn0 G] 156)).alloc (.cells #[.int .i64 lo] 3)).alloc (.cells #[.int .i64 hi] 3)).alloc (.cells #[.nilFunc, .nilFunc, .nilFunc, .nilFunc] 88)) (w.heap.size + 1 + 1) 3 #[.int .i64 lo] := by
    have := ((Blk.new ((w.alloc (.cells #[fn0 F] 155)).alloc (.cells #[fn0 G] 156)) 3 #[.int .i64 lo]).alloc (.cells #[.int .i64 hi] 3)).alloc (.cells #[.nilFunc, .nilFunc, .nilFunc, .nilFunc] 88)
    simpa using this
  have b3 : Blk (((((w.alloc (.cells #[fn0 F] 155)).alloc (.cells #[fn0 G] 156)).alloc (.cells #[.int .i64 lo] 3)).alloc (.cells #[.int .i64 hi] 3)).alloc (.cells #[.nilFunc, .nilFunc, .nilFunc, .nilFunc] 88)) (w.heap.size + 1 + 1 + 1) 3 #[.int .i64 hi] := by
    have := (Blk.new (((w.alloc (.cells #[fn0 F] 155)).alloc (.cells #[fn0 G] 156)).alloc (.cells #[.int .i64 lo] 3)) 3 #[.int .i64 hi]).alloc (.cells #[.nilFunc, .nilFunc, .nilFunc, .nilFunc] 88)
    simpa using this
  have bz : Blk (((((w.alloc (.cells #[fn0 F] 155)).alloc (.cells #[fn0 G] 156)).alloc (.cells #[.int .i64 lo] 3)).alloc (.cells #[.int .i64 hi] 3)).alloc (.cells #[.nilFunc, .nilFunc, .nilFunc, .nilFunc] 88)) (w.heap.size + 1 + 1 + 1 + 1) 88 #[.nilFunc, .nilFunc, .nilFunc, .nilFunc] := by
    have := Blk.new ((((w.alloc (.cells #[fn0 F] 155)).alloc (.cells #[fn0 G] 156)).alloc (.cells #[.int .i64 lo] 3)).alloc (.cells #[.int .i64 hi] 3)) 88 #[.nilFunc, .nilFunc, .nilFunc, .nilFunc]
    simpa using this
  have hst := st_p bz rfl
  have B0 := Lib.hid b0
  have B1 := Lib.hid b1
  have B2 := Lib.hid b2
  have B3 := Lib.hid b3
  have BZ := Lib.hid bz
  clear bz b0 b1 b2 b3
  go_enter Tryz.func106, Tryz.ntmps106
  go_wp2_with fail
  refine bodyPost_ret (results_cell_row rfl _ _ (w.heap.size + 1 + 1 + 1 + 1) 88 _ (0, 0) _ rfl (Blk.setRow BZ.out _) Tryz.underlying88 rfl info_part) rfl ?_
  refine ⟨[w.heap.size, w.heap.size + 1, w.heap.size + 1 + 1, w.heap.size + 1 + 1 + 1], rfl, ?_, ?_, (Chg.setRow ((((((Chg.refl _ w).alloc _).alloc _).alloc _).alloc _).alloc _) (.inr (by omega)) _)⟩
  · intro i v hv
    match i, hv with
    | 0, hv => cases (show some _ = some v from hv); exact ((B0.out).setRow_far (g' := w.heap.size + 1 + 1 + 1 + 1) (by omega) _).cell 0
    | 1, hv => cases (show some _ = some v from hv); exact ((B1.out).setRow_far (g' := w.heap.size + 1 + 1 + 1 + 1) (by omega) _).cell 0
    | 2, hv => cases (show some _ = some v from hv); exact ((B2.out).setRow_far (g' := w.heap.size + 1 + 1 + 1 + 1) (by omega) _).cell 0
    | 3, hv => cases (show some _ = some v from hv); exact ((B3.out).setRow_far (g' := w.heap.size + 1 + 1 + 1 + 1) (by omega) _).cell 0
    | n + 4, hv => simp at hv
  · intro i hi
    match i, hi with
    | 0, hi => show w.heap.size ≤ w.heap.size; omega
    | 1, hi => show w.heap.size ≤ w.heap.size + 1; omega
    | 2, hi => show w.heap.size ≤ w.heap.size + 1 + 1; omega
    | 3, hi => show w.heap.size ≤ w.heap.size + 1 + 1 + 1; omega
    | n + 4, hi => omega

set_option maxHeartbeats 1000000 in
set_option maxRecDepth 100000 in
theorem mk_list_int (F : FuncId) (most : Int) (LF : FuncId) (TF : FuncId) (MF : FuncId) (w : World) : Calls Tryz.prog 90 #[fn0 F, .int .i64 most, fn0 LF, fn0 TF, fn0 MF] w fun e w' => ∃ bs : List Nat, e = .returned (.agg #[.func (.func 111) #[] (caps bs [0, 2]), .func (.func 113) #[] (caps bs [1, 3, 0]), .func (.func 115) #[] (caps bs [0]), .func (.func 116) #[] (caps bs [0, 1, 4])]) ∧
    (∀ i v, [(fn0 F : Value), (.int .i64 most : Value), (fn0 LF : Value), (fn0 TF : Value), (fn0 MF : Value)][i]? = some v → w'.cell? ⟨bs.getD i 0, 0, none⟩ = some v) ∧ (∀ i, i < 5 → w.heap.size ≤ bs.getD i 0) ∧ Chg (fun _ => False) w w' := by
  have b0 : Blk ((((((w.alloc (.cells #[fn0 F] 139)).alloc (.cells #[.int .i64 most] 3)).alloc (.cells #[fn0 LF] 140)).alloc (.cells #[fn0 TF] 141)).alloc (.cells #[fn0 MF] 142)).alloc (.cells #[.nilFunc, .nilFunc, .nilFunc, .nilFunc] 88)) (w.heap.size) 139 #[fn0 F] := by
    have := (((((Blk.new w 139 #[fn0 F]).alloc (.cells #[.int .i64 most] 3)).alloc (.cells #[fn0 LF] 140)).alloc (.cells #[fn0 TF] 141)).alloc (.cells #[fn0 MF] 142)).alloc (.cells #[.nilFunc, .nilFunc, .nilFunc, .nilFunc] 88)
    simpa using this
  have b1 : Blk ((((((w.alloc (.cells #[fn0 F] 139)).alloc (.cells #[.int .i64 most] 3)).alloc (.cells #[fn0 LF] 140)).alloc (.cells #[fn0 TF] 141)).alloc (.cells #[fn0 MF] 142)).alloc (.cells #[.nilFunc, .nilFunc, .nilFunc, .nilFunc] 88)) (w.heap.size + 1) 3 #[.int .i64 most] := by
    have := ((((Blk.new (w.alloc (.cells #[fn0 F] 139)) 3 #[.int .i64 most]).alloc (.cells #[fn0 LF] 140)).alloc (.cells #[fn0 TF] 141)).alloc (.cells #[fn0 MF] 142)).alloc (.cells #[.nilFunc, .nilFunc, .nilFunc, .nilFunc] 88)
    simpa using this
  have b2 : Blk ((((((w.alloc (.cells #[fn0 F] 139)).alloc (.cells #[.int .i64 most] 3)).alloc (.cells #[fn0 LF] 140)).alloc (.cells #[fn0 TF] 141)).alloc (.cells #[fn0 MF] 142)).alloc (.cells #[.nilFunc, .nilFunc, .nilFunc, .nilFunc] 88)) (w.heap.size + 1 + 1) 140 #[fn0 LF] := by
    have := (((Blk.new ((w.alloc (.cells #[fn0 F] 139)).alloc (.cells #[.int .i64 most] 3)) 140 #[fn0 LF]).alloc (.cells #[fn0 TF] 141)).alloc (.cells #[fn0 MF] 142)).alloc (.cells #[.nilFunc, .nilFunc, .nilFunc, .nilFunc] 88)
    simpa using this
  have b3 : Blk ((((((w.alloc (.cells #[fn0 F] 139)).alloc (.cells #[.int .i64 most] 3)).alloc (.cells #[fn0 LF] 140)).alloc (.cells #[fn0 TF] 141)).alloc (.cells #[fn0 MF] 142)).alloc (.cells #[.nilFunc, .nilFunc, .nilFunc, .nilFunc] 88)) (w.heap.size + 1 + 1 + 1) 141 #[fn0 TF] := by
    have := ((Blk.new (((w.alloc (.cells #[fn0 F] 139)).alloc (.cells #[.int .i64 most] 3)).alloc (.cells #[fn0 LF] 140)) 141 #[fn0 TF]).alloc (.cells #[fn0 MF] 142)).alloc (.cells #[.nilFunc, .nilFunc, .nilFunc, .nilFunc] 88)
    simpa using this
  have b4 : Blk ((((((w.alloc (.cells #[fn0 F] 139)).alloc (.cells #[.int .i64 most] 3)).alloc (.cells #[fn0 LF] 140)).alloc (.cells #[fn0 TF] 141)).alloc (.cells #[fn0 MF] 142)).alloc (.cells #[.nilFunc, .nilFunc, .nilFunc, .nilFunc] 88)) (w.heap.size + 1 + 1 + 1 + 1) 142 #[fn0 MF] := by
    have := (Blk.new ((((w.alloc (.cells #[fn0 F] 139)).alloc (.cells #[.int .i64 most] 3)).alloc (.cells #[fn0 LF] 140)).alloc (.cells #[fn0 TF] 141)) 142 #[fn0 MF]).alloc (.cells #[.nilFunc, .nilFunc, .nilFunc, .nilFunc] 88)
    simpa using this
  have bz : Blk ((((((w.alloc (.cells #[fn0 F] 139)).alloc (.cells #[.int .i64 most] 3)).alloc (.cells #[fn0 LF] 140)).alloc (.cells #[fn0 TF] 141)).alloc (.cells #[fn0 MF] 142)).alloc (.cells #[.nilFunc, .nilFunc, .nilFunc, .nilFunc] 88)) (w.heap.size + 1 + 1 + 1 + 1 + 1) 88 #[.nilFunc, .nilFunc, .nilFunc, .nilFunc] := by
    have := Blk.new (((((w.alloc (.cells #[fn0 F] 139)).alloc (.cells #[.int .i64 most] 3)).alloc (.cells #[fn0 LF] 140)).alloc (.cells #[fn0 TF] 141)).alloc (.cells #[fn0 MF] 142)) 88 #[.nilFunc, .nilFunc, .nilFunc, .nilFunc]
    simpa using this
  have hst := st_p bz rfl
  have B0 := Lib.hid b0
  have B1 := Lib.hid b1
  have B2 := Lib.hid b2
  have B3 := Lib.hid b3
  have B4 := Lib.hid b4
  have BZ := Lib.hid bz
  clear bz b0 b1 b2 b3 b4
  go_enter Tryz.func90, Tryz.ntmps90
  go_wp2_with fail
  refine bodyPost_ret (results_cell_row rfl _ _ (w.heap.size + 1 + 1 + 1 + 1 + 1) 88 _ (0, 0) _ rfl (Blk.setRow BZ.out _) Tryz.underlying88 rfl info_part) rfl ?_
  refine ⟨[w.heap.size, w.heap.size + 1, w.heap.size + 1 + 1, w.heap.size + 1 + 1 + 1, w.heap.size + 1 + 1 + 1 + 1], rfl, ?_, ?_, (Chg.setRow (((((((Chg.refl _ w).alloc _).alloc _).alloc _).alloc _).alloc _).alloc _) (.inr (by omega)) _)⟩
  · intro i v hv
    match i, hv with
    | 0, hv => cases (show some _ = some v from hv); exact ((B0.out).setRow_far (g' := w.heap.size + 1 + 1 + 1 + 1 + 1) (by omega) _).cell 0
    | 1, hv => cases (show some _ = some v from hv); exact ((B1.out).setRow_far (g' := w.heap.size + 1 + 1 + 1 + 1 + 1) (by omega) _).cell 0
    | 2, hv => cases (show some _ = some v from hv); exact ((B2.out).setRow_far (g' := w.heap.size + 1 + 1 + 1 + 1 + 1) (by omega) _).cell 0
    | 3, hv => cases (show some _ = some v from hv); exact ((B3.out).setRow_far (g' := w.heap.size + 1 + 1 + 1 + 1 + 1) (by omega) _).cell 0
    | 4, hv => cases (show some _ = some v from hv); exact ((B4.out).setRow_far (g' := w.heap.size + 1 + 1 + 1 + 1 + 1) (by omega) _).cell 0
    | n + 5, hv => simp at hv
  · intro i hi
    match i, hi with
    | 0, hi => show w.heap.size ≤ w.heap.size; omega
    | 1, hi => show w.heap.size ≤ w.heap.size + 1; omega
    | 2, hi => show w.heap.size ≤ w.heap.size + 1 + 1; omega
    | 3, hi => show w.heap.size ≤ w.heap.size + 1 + 1 + 1; omega
    | 4, hi => show w.heap.size ≤ w.heap.size + 1 + 1 + 1 + 1; omega
    | n + 5, hi => omega

set_option maxHeartbeats 1000000 in
set_option maxRecDepth 100000 in
theorem mk_list_pair (F : FuncId) (most : Int) (LF : FuncId) (TF : FuncId) (MF : FuncId) (w : World) : Calls Tryz.prog 127 #[fn0 F, .int .i64 most, fn0 LF, fn0 TF, fn0 MF] w fun e w' => ∃ bs : List Nat, e = .returned (.agg #[.func (.func 166) #[] (caps bs [0, 2]), .func (.func 168) #[] (caps bs [1, 3, 0]), .func (.func 170) #[] (caps bs [0]), .func (.func 171) #[] (caps bs [0, 1, 4])]) ∧
    (∀ i v, [(fn0 F : Value), (.int .i64 most : Value), (fn0 LF : Value), (fn0 TF : Value), (fn0 MF : Value)][i]? = some v → w'.cell? ⟨bs.getD i 0, 0, none⟩ = some v) ∧ (∀ i, i < 5 → w.heap.size ≤ bs.getD i 0) ∧ Chg (fun _ => False) w w' := by
  have b0 : Blk ((((((w.alloc (.cells #[fn0 F] 163)).alloc (.cells #[.int .i64 most] 3)).alloc (.cells #[fn0 LF] 164)).alloc (.cells #[fn0 TF] 165)).alloc (.cells #[fn0 MF] 166)).alloc (.cells #[.nilFunc, .nilFunc, .nilFunc, .nilFunc] 88)) (w.heap.size) 163 #[fn0 F] := by
    have := (((((Blk.new w 163 #[fn0 F]).alloc (.cells #[.int .i64 most] 3)).alloc (.cells #[fn0 LF] 164)).alloc (.cells #[fn0 TF] 165)).alloc (.cells #[fn0 MF] 166)).alloc (.cells #[.nilFunc, .nilFunc, .nilFunc, .nilFunc] 88)
    simpa using this
  have b1 : Blk ((((((w.alloc (.cells #[fn0 F] 163)).alloc (.cells #[.int .i64 most] 3)).alloc (.cells #[fn0 LF] 164)).alloc (.cells #[fn0 TF] 165)).alloc (.cells #[fn0 MF] 166)).alloc (.cells #[.nilFunc, .nilFunc, .nilFunc, .nilFunc] 88)) (w.heap.size + 1) 3 #[.int .i64 most] := by
    have := ((((Blk.new (w.alloc (.cells #[fn0 F] 163)) 3 #[.int .i64 most]).alloc (.cells #[fn0 LF] 164)).alloc (.cells #[fn0 TF] 165)).alloc (.cells #[fn0 MF] 166)).alloc (.cells #[.nilFunc, .nilFunc, .nilFunc, .nilFunc] 88)
    simpa using this
  have b2 : Blk ((((((w.alloc (.cells #[fn0 F] 163)).alloc (.cells #[.int .i64 most] 3)).alloc (.cells #[fn0 LF] 164)).alloc (.cells #[fn0 TF] 165)).alloc (.cells #[fn0 MF] 166)).alloc (.cells #[.nilFunc, .nilFunc, .nilFunc, .nilFunc] 88)) (w.heap.size + 1 + 1) 164 #[fn0 LF] := by
    have := (((Blk.new ((w.alloc (.cells #[fn0 F] 163)).alloc (.cells #[.int .i64 most] 3)) 164 #[fn0 LF]).alloc (.cells #[fn0 TF] 165)).alloc (.cells #[fn0 MF] 166)).alloc (.cells #[.nilFunc, .nilFunc, .nilFunc, .nilFunc] 88)
    simpa using this
  have b3 : Blk ((((((w.alloc (.cells #[fn0 F] 163)).alloc (.cells #[.int .i64 most] 3)).alloc (.cells #[fn0 LF] 164)).alloc (.cells #[fn0 TF] 165)).alloc (.cells #[fn0 MF] 166)).alloc (.cells #[.nilFunc, .nilFunc, .nilFunc, .nilFunc] 88)) (w.heap.size + 1 + 1 + 1) 165 #[fn0 TF] := by
    have := ((Blk.new (((w.alloc (.cells #[fn0 F] 163)).alloc (.cells #[.int .i64 most] 3)).alloc (.cells #[fn0 LF] 164)) 165 #[fn0 TF]).alloc (.cells #[fn0 MF] 166)).alloc (.cells #[.nilFunc, .nilFunc, .nilFunc, .nilFunc] 88)
    simpa using this
  have b4 : Blk ((((((w.alloc (.cells #[fn0 F] 163)).alloc (.cells #[.int .i64 most] 3)).alloc (.cells #[fn0 LF] 164)).alloc (.cells #[fn0 TF] 165)).alloc (.cells #[fn0 MF] 166)).alloc (.cells #[.nilFunc, .nilFunc, .nilFunc, .nilFunc] 88)) (w.heap.size + 1 + 1 + 1 + 1) 166 #[fn0 MF] := by
    have := (Blk.new ((((w.alloc (.cells #[fn0 F] 163)).alloc (.cells #[.int .i64 most] 3)).alloc (.cells #[fn0 LF] 164)).alloc (.cells #[fn0 TF] 165)) 166 #[fn0 MF]).alloc (.cells #[.nilFunc, .nilFunc, .nilFunc, .nilFunc] 88)
    simpa using this
  have bz : Blk ((((((w.alloc (.cells #[fn0 F] 163)).alloc (.cells #[.int .i64 most] 3)).alloc (.cells #[fn0 LF] 164)).alloc (.cells #[fn0 TF] 165)).alloc (.cells #[fn0 MF] 166)).alloc (.cells #[.nilFunc, .nilFunc, .nilFunc, .nilFunc] 88)) (w.heap.size + 1 + 1 + 1 + 1 + 1) 88 #[.nilFunc, .nilFunc, .nilFunc, .nilFunc] := by
    have := Blk.new (((((w.alloc (.cells #[fn0 F] 163)).alloc (.cells #[.int .i64 most] 3)).alloc (.cells #[fn0 LF] 164)).alloc (.cells #[fn0 TF] 165)).alloc (.cells #[fn0 MF] 166)) 88 #[.nilFunc, .nilFunc, .nilFunc, .nilFunc]
    simpa using this
  have hst := st_p bz rfl
  have B0 := Lib.hid b0
  have B1 := Lib.hid b1
  have B2 := Lib.hid b2
  have B3 := Lib.hid b3
  have B4 := Lib.hid b4
  have BZ := Lib.hid bz
  clear bz b0 b1 b2 b3 b4
  go_enter Tryz.func127, Tryz.ntmps127
  go_wp2_with fail
  refine bodyPost_ret (results_cell_row rfl _ _ (w.heap.size + 1 + 1 + 1 + 1 + 1) 88 _ (0, 0) _ rfl (Blk.setRow BZ.out _) Tryz.underlying88 rfl info_part) rfl ?_
  refine ⟨[w.heap.size, w.heap.size + 1, w.heap.size + 1 + 1, w.heap.size + 1 + 1 + 1, w.heap.size + 1 + 1 + 1 + 1], rfl, ?_, ?_, (Chg.setRow (((((((Chg.refl _ w).alloc _).alloc _).alloc _).alloc _).alloc _).alloc _) (.inr (by omega)) _)⟩
  · intro i v hv
    match i, hv with
    | 0, hv => cases (show some _ = some v from hv); exact ((B0.out).setRow_far (g' := w.heap.size + 1 + 1 + 1 + 1 + 1) (by omega) _).cell 0
    | 1, hv => cases (show some _ = some v from hv); exact ((B1.out).setRow_far (g' := w.heap.size + 1 + 1 + 1 + 1 + 1) (by omega) _).cell 0
    | 2, hv => cases (show some _ = some v from hv); exact ((B2.out).setRow_far (g' := w.heap.size + 1 + 1 + 1 + 1 + 1) (by omega) _).cell 0
    | 3, hv => cases (show some _ = some v from hv); exact ((B3.out).setRow_far (g' := w.heap.size + 1 + 1 + 1 + 1 + 1) (by omega) _).cell 0
    | 4, hv => cases (show some _ = some v from hv); exact ((B4.out).setRow_far (g' := w.heap.size + 1 + 1 + 1 + 1 + 1) (by omega) _).cell 0
    | n + 5, hv => simp at hv
  · intro i hi
    match i, hi with
    | 0, hi => show w.heap.size ≤ w.heap.size; omega
    | 1, hi => show w.heap.size ≤ w.heap.size + 1; omega
    | 2, hi => show w.heap.size ≤ w.heap.size + 1 + 1; omega
    | 3, hi => show w.heap.size ≤ w.heap.size + 1 + 1 + 1; omega
    | 4, hi => show w.heap.size ≤ w.heap.size + 1 + 1 + 1 + 1; omega
    | n + 5, hi => omega

set_option maxHeartbeats 1000000 in
set_option maxRecDepth 100000 in
theorem mk_list_dig (F : FuncId) (most : Int) (LF : FuncId) (TF : FuncId) (MF : FuncId) (w : World) : Calls Tryz.prog 162 #[fn0 F, .int .i64 most, fn0 LF, fn0 TF, fn0 MF] w fun e w' => ∃ bs : List Nat, e = .returned (.agg #[.func (.func 183) #[] (caps bs [0, 2]), .func (.func 185) #[] (caps bs [1, 3, 0]), .func (.func 187) #[] (caps bs [0]), .func (.func 188) #[] (caps bs [0, 1, 4])]) ∧
    (∀ i v, [(fn0 F : Value), (.int .i64 most : Value), (fn0 LF : Value), (fn0 TF : Value), (fn0 MF : Value)][i]? = some v → w'.cell? ⟨bs.getD i 0, 0, none⟩ = some v) ∧ (∀ i, i < 5 → w.heap.size ≤ bs.getD i 0) ∧ Chg (fun _ => False) w w' := by
  have b0 : Blk ((((((w.alloc (.cells #[fn0 F] 176)).alloc (.cells #[.int .i64 most] 3)).alloc (.cells #[fn0 LF] 172)).alloc (.cells #[fn0 TF] 173)).alloc (.cells #[fn0 MF] 177)).alloc (.cells #[.nilFunc, .nilFunc, .nilFunc, .nilFunc] 88)) (w.heap.size) 176 #[fn0 F] := by
    have := (((((Blk.new w 176 #[fn0 F]).alloc (.cells #[.int .i64 most] 3)).alloc (.cells #[fn0 LF] 172)).alloc (.cells #[fn0 TF] 173)).alloc (.cells #[fn0 MF] 177)).alloc (.cells #[.nilFunc, .nilFunc, .nilFunc, .nilFunc] 88)
    simpa using this
  have b1 : Blk ((((((w.alloc (.cells #[fn0 F] 176)).alloc (.cells #[.int .i64 most] 3)).alloc (.cells #[fn0 LF] 172)).alloc (.cells #[fn0 TF] 173)).alloc (.cells #[fn0 MF] 177)).alloc (.cells #[.nilFunc, .nilFunc, .nilFunc, .nilFunc] 88)) (w.heap.size + 1) 3 #[.int .i64 most] := by
    have := ((((Blk.new (w.alloc (.cells #[fn0 F] 176)) 3 #[.int .i64 most]).alloc (.cells #[fn0 LF] 172)).alloc (.cells #[fn0 TF] 173)).alloc (.cells #[fn0 MF] 177)).alloc (.cells #[.nilFunc, .nilFunc, .nilFunc, .nilFunc] 88)
    simpa using this
  have b2 : Blk ((((((w.alloc (.cells #[fn0 F] 176)).alloc (.cells #[.int .i64 most] 3)).alloc (.cells #[fn0 LF] 172)).alloc (.cells #[fn0 TF] 173)).alloc (.cells #[fn0 MF] 177)).alloc (.cells #[.nilFunc, .nilFunc, .nilFunc, .nilFunc] 88)) (w.heap.size + 1 + 1) 172 #[fn0 LF] := by
    have := (((Blk.new ((w.alloc (.cells #[fn0 F] 176)).alloc (.cells #[.int .i64 most] 3)) 172 #[fn0 LF]).alloc (.cells #[fn0 TF] 173)).alloc (.cells #[fn0 MF] 177)).alloc (.cells #[.nilFunc, .nilFunc, .nilFunc, .nilFunc] 88)
    simpa using this
  have b3 : Blk ((((((w.alloc (.cells #[fn0 F] 176)).alloc (.cells #[.int .i64 most] 3)).alloc (.cells #[fn0 LF] 172)).alloc (.cells #[fn0 TF] 173)).alloc (.cells #[fn0 MF] 177)).alloc (.cells #[.nilFunc, .nilFunc, .nilFunc, .nilFunc] 88)) (w.heap.size + 1 + 1 + 1) 173 #[fn0 TF] := by
    have := ((Blk.new (((w.alloc (.cells #[fn0 F] 176)).alloc (.cells #[.int .i64 most] 3)).alloc (.cells #[fn0 LF] 172)) 173 #[fn0 TF]).alloc (.cells #[fn0 MF] 177)).alloc (.cells #[.nilFunc, .nilFunc, .nilFunc, .nilFunc] 88)
    simpa using this
  have b4 : Blk ((((((w.alloc (.cells #[fn0 F] 176)).alloc (.cells #[.int .i64 most] 3)).alloc (.cells #[fn0 LF] 172)).alloc (.cells #[fn0 TF] 173)).alloc (.cells #[fn0 MF] 177)).alloc (.cells #[.nilFunc, .nilFunc, .nilFunc, .nilFunc] 88)) (w.heap.size + 1 + 1 + 1 + 1) 177 #[fn0 MF] := by
    have := (Blk.new ((((w.alloc (.cells #[fn0 F] 176)).alloc (.cells #[.int .i64 most] 3)).alloc (.cells #[fn0 LF] 172)).alloc (.cells #[fn0 TF] 173)) 177 #[fn0 MF]).alloc (.cells #[.nilFunc, .nilFunc, .nilFunc, .nilFunc] 88)
    simpa using this
  have bz : Blk ((((((w.alloc (.cells #[fn0 F] 176)).alloc (.cells #[.int .i64 most] 3)).alloc (.cells #[fn0 LF] 172)).alloc (.cells #[fn0 TF] 173)).alloc (.cells #[fn0 MF] 177)).alloc (.cells #[.nilFunc, .nilFunc, .nilFunc, .nilFunc] 88)) (w.heap.size + 1 + 1 + 1 + 1 + 1) 88 #[.nilFunc, .nilFunc, .nilFunc, .nilFunc] := by
    have := Blk.new (((((w.alloc (.cells #[fn0 F] 176)).alloc (.cells #[.int .i64 most] 3)).alloc (.cells #[fn0 LF] 172)).alloc (.cells #[fn0 TF] 173)).alloc (.cells #[fn0 MF] 177)) 88 #[.nilFunc, .nilFunc, .nilFunc, .nilFunc]
    simpa using this
  have hst := st_p bz rfl
  have B0 := Lib.hid b0
  have B1 := Lib.hid b1
  have B2 := Lib.hid b2
  have B3 := Lib.hid b3
  have B4 := Lib.hid b4
  have BZ := Lib.hid bz
  clear bz b0 b1 b2 b3 b4
  go_enter Tryz.func162, Tryz.ntmps162
  go_wp2_with fail
  refine bodyPost_ret (results_cell_row rfl _ _ (w.heap.size + 1 + 1 + 1 + 1 + 1) 88 _ (0, 0) _ rfl (Blk.setRow BZ.out _) Tryz.underlying88 rfl info_part) rfl ?_
  refine ⟨[w.heap.size, w.heap.size + 1, w.heap.size + 1 + 1, w.heap.size + 1 + 1 + 1, w.heap.size + 1 + 1 + 1 + 1], rfl, ?_, ?_, (Chg.setRow (((((((Chg.refl _ w).alloc _).alloc _).alloc _).alloc _).alloc _).alloc _) (.inr (by omega)) _)⟩
  · intro i v hv
    match i, hv with
    | 0, hv => cases (show some _ = some v from hv); exact ((B0.out).setRow_far (g' := w.heap.size + 1 + 1 + 1 + 1 + 1) (by omega) _).cell 0
    | 1, hv => cases (show some _ = some v from hv); exact ((B1.out).setRow_far (g' := w.heap.size + 1 + 1 + 1 + 1 + 1) (by omega) _).cell 0
    | 2, hv => cases (show some _ = some v from hv); exact ((B2.out).setRow_far (g' := w.heap.size + 1 + 1 + 1 + 1 + 1) (by omega) _).cell 0
    | 3, hv => cases (show some _ = some v from hv); exact ((B3.out).setRow_far (g' := w.heap.size + 1 + 1 + 1 + 1 + 1) (by omega) _).cell 0
    | 4, hv => cases (show some _ = some v from hv); exact ((B4.out).setRow_far (g' := w.heap.size + 1 + 1 + 1 + 1 + 1) (by omega) _).cell 0
    | n + 5, hv => simp at hv
  · intro i hi
    match i, hi with
    | 0, hi => show w.heap.size ≤ w.heap.size; omega
    | 1, hi => show w.heap.size ≤ w.heap.size + 1; omega
    | 2, hi => show w.heap.size ≤ w.heap.size + 1 + 1; omega
    | 3, hi => show w.heap.size ≤ w.heap.size + 1 + 1 + 1; omega
    | 4, hi => show w.heap.size ≤ w.heap.size + 1 + 1 + 1 + 1; omega
    | n + 5, hi => omega

set_option maxHeartbeats 1000000 in
set_option maxRecDepth 100000 in
theorem mk_K (w : World) : Calls Tryz.prog 85 #[] w fun e w' => ∃ bs : List Nat, e = .returned (.agg #[.func (.func 139) #[] (caps bs [0]), .func (.func 141) #[] (caps bs [1, 0]), .func (.func 143) #[] (caps bs [0]), .func (.func 144) #[] (caps bs [0, 1])]) ∧ IsPart w' w.heap.size .K bs ∧ Chg (fun _ => False) w w' := by
  have hb := Blk.new w 88 #[.nilFunc, .nilFunc, .nilFunc, .nilFunc]
  have HT := Lib.hid (mk_text 104 1024 (w.alloc (.cells #[.nilFunc, .nilFunc, .nilFunc, .nilFunc] 88)))
  go_enter Tryz.func85, Tryz.ntmps85
  go_wp2_with fail
  refine HT.out.mono ?_
  rintro e w1 ⟨bs, rfl, hp, hq, hc⟩
  have hb1 := hb.chg hc (fun h => h)
  have hst := st_p hb1 rfl
  have Hb := Lib.hid hb1
  have Hp := Lib.hid hp
  have Hq := Lib.hid hq
  clear hb hb1 hp hq
  go_wp2_with fail
  refine bodyPost_ret (results_cell_row rfl _ _ w.heap.size 88 _ (0, 0) _ rfl (Blk.setRow Hb.out _) Tryz.underlying88 rfl info_part) rfl ?_
  refine ⟨bs, rfl, ?_, (((Chg.refl _ w).alloc _).trans hc).setRow (.inr (Nat.le_refl _)) _⟩
  have hi : IsPart w1 (w.heap.size + 1) .K bs := ⟨Hp.out, fun i hi => by have := (Hq.out) i hi; simpa using this⟩
  exact (hi.chg (Chg.setRow (g := w.heap.size) (Chg.refl (fun k => k = w.heap.size) w1) (.inl rfl) _) (fun b hb e => by omega)).low (by omega)

set_option maxHeartbeats 1000000 in
set_option maxRecDepth 100000 in
theorem mk_T (w : World) : Calls Tryz.prog 86 #[] w fun e w' => ∃ bs : List Nat, e = .returned (.agg #[.func (.func 139) #[] (caps bs [0]), .func (.func 141) #[] (caps bs [1, 0]), .func (.func 143) #[] (caps bs [0]), .func (.func 144) #[] (caps bs [0, 1])]) ∧ IsPart w' w.heap.size .T bs ∧ Chg (fun _ => False) w w' := by
  have hb := Blk.new w 88 #[.nilFunc, .nilFunc, .nilFunc, .nilFunc]
  have HT := Lib.hid (mk_text 105 1024 (w.alloc (.cells #[.nilFunc, .nilFunc, .nilFunc, .nilFunc] 88)))
  go_enter Tryz.func86, Tryz.ntmps86
  go_wp2_with fail
  refine HT.out.mono ?_
  rintro e w1 ⟨bs, rfl, hp, hq, hc⟩
  have hb1 := hb.chg hc (fun h => h)
  have hst := st_p hb1 rfl
  have Hb := Lib.hid hb1
  have Hp := Lib.hid hp
  have Hq := Lib.hid hq
  clear hb hb1 hp hq
  go_wp2_with fail
  refine bodyPost_ret (results_cell_row rfl _ _ w.heap.size 88 _ (0, 0) _ rfl (Blk.setRow Hb.out _) Tryz.underlying88 rfl info_part) rfl ?_
  refine ⟨bs, rfl, ?_, (((Chg.refl _ w).alloc _).trans hc).setRow (.inr (Nat.le_refl _)) _⟩
  have hi : IsPart w1 (w.heap.size + 1) .T bs := ⟨Hp.out, fun i hi => by have := (Hq.out) i hi; simpa using this⟩
  exact (hi.chg (Chg.setRow (g := w.heap.size) (Chg.refl (fun k => k = w.heap.size) w1) (.inl rfl) _) (fun b hb e => by omega)).low (by omega)

set_option maxHeartbeats 1000000 in
set_option maxRecDepth 100000 in
theorem mk_V (w : World) : Calls Tryz.prog 88 #[] w fun e w' => ∃ bs : List Nat, e = .returned (.agg #[.func (.func 139) #[] (caps bs [0]), .func (.func 141) #[] (caps bs [1, 0]), .func (.func 143) #[] (caps bs [0]), .func (.func 144) #[] (caps bs [0, 1])]) ∧ IsPart w' w.heap.size .V bs ∧ Chg (fun _ => False) w w' := by
  have hb := Blk.new w 88 #[.nilFunc, .nilFunc, .nilFunc, .nilFunc]
  have HT := Lib.hid (mk_text 109 1024 (w.alloc (.cells #[.nilFunc, .nilFunc, .nilFunc, .nilFunc] 88)))
  go_enter Tryz.func88, Tryz.ntmps88
  go_wp2_with fail
  refine HT.out.mono ?_
  rintro e w1 ⟨bs, rfl, hp, hq, hc⟩
  have hb1 := hb.chg hc (fun h => h)
  have hst := st_p hb1 rfl
  have Hb := Lib.hid hb1
  have Hp := Lib.hid hp
  have Hq := Lib.hid hq
  clear hb hb1 hp hq
  go_wp2_with fail
  refine bodyPost_ret (results_cell_row rfl _ _ w.heap.size 88 _ (0, 0) _ rfl (Blk.setRow Hb.out _) Tryz.underlying88 rfl info_part) rfl ?_
  refine ⟨bs, rfl, ?_, (((Chg.refl _ w).alloc _).trans hc).setRow (.inr (Nat.le_refl _)) _⟩
  have hi : IsPart w1 (w.heap.size + 1) .V bs := ⟨Hp.out, fun i hi => by have := (Hq.out) i hi; simpa using this⟩
  exact (hi.chg (Chg.setRow (g := w.heap.size) (Chg.refl (fun k => k = w.heap.size) w1) (.inl rfl) _) (fun b hb e => by omega)).low (by omega)

set_option maxHeartbeats 1000000 in
set_option maxRecDepth 100000 in
theorem mk_B (w : World) : Calls Tryz.prog 134 #[] w fun e w' => ∃ bs : List Nat, e = .returned (.agg #[.func (.func 139) #[] (caps bs [0]), .func (.func 141) #[] (caps bs [1, 0]), .func (.func 143) #[] (caps bs [0]), .func (.func 144) #[] (caps bs [0, 1])]) ∧ IsPart w' w.heap.size .B bs ∧ Chg (fun _ => False) w w' := by
  have hb := Blk.new w 88 #[.nilFunc, .nilFunc, .nilFunc, .nilFunc]
  have HT := Lib.hid (mk_text 179 1048576 (w.alloc (.cells #[.nilFunc, .nilFunc, .nilFunc, .nilFunc] 88)))
  go_enter Tryz.func134, Tryz.ntmps134
  go_wp2_with fail
  refine HT.out.mono ?_
  rintro e w1 ⟨bs, rfl, hp, hq, hc⟩
  have hb1 := hb.chg hc (fun h => h)
  have hst := st_p hb1 rfl
  have Hb := Lib.hid hb1
  have Hp := Lib.hid hp
  have Hq := Lib.hid hq
  clear hb hb1 hp hq
  go_wp2_with fail
  refine bodyPost_ret (results_cell_row rfl _ _ w.heap.size 88 _ (0, 0) _ rfl (Blk.setRow Hb.out _) Tryz.underlying88 rfl info_part) rfl ?_
  refine ⟨bs, rfl, ?_, (((Chg.refl _ w).alloc _).trans hc).setRow (.inr (Nat.le_refl _)) _⟩
  have hi : IsPart w1 (w.heap.size + 1) .B bs := ⟨Hp.out, fun i hi => by have := (Hq.out) i hi; simpa using this⟩
  exact (hi.chg (Chg.setRow (g := w.heap.size) (Chg.refl (fun k => k = w.heap.size) w1) (.inl rfl) _) (fun b hb e => by omega)).low (by omega)

set_option maxHeartbeats 1000000 in
set_option maxRecDepth 100000 in
theorem mk_F (w : World) : Calls Tryz.prog 84 #[] w fun e w' => ∃ bs : List Nat, e = .returned (.agg #[.func (.func 135) #[] (caps bs [0]), .func (.func 136) #[] (caps bs [0]), .func (.func 137) #[] (caps bs [0]), .func (.func 138) #[] (caps bs [])]) ∧ IsPart w' w.heap.size .F bs ∧ Chg (fun _ => False) w w' := by
  have hb := Blk.new w 88 #[.nilFunc, .nilFunc, .nilFunc, .nilFunc]
  have HT := Lib.hid (mk_free 102 (w.alloc (.cells #[.nilFunc, .nilFunc, .nilFunc, .nilFunc] 88)))
  go_enter Tryz.func84, Tryz.ntmps84
  go_wp2_with fail
  refine HT.out.mono ?_
  rintro e w1 ⟨bs, rfl, hp, hq, hc⟩
  have hb1 := hb.chg hc (fun h => h)
  have hst := st_p hb1 rfl
  have Hb := Lib.hid hb1
  have Hp := Lib.hid hp
  have Hq := Lib.hid hq
  clear hb hb1 hp hq
  go_wp2_with fail
  refine bodyPost_ret (results_cell_row rfl _ _ w.heap.size 88 _ (0, 0) _ rfl (Blk.setRow Hb.out _) Tryz.underlying88 rfl info_part) rfl ?_
  refine ⟨bs, rfl, ?_, (((Chg.refl _ w).alloc _).trans hc).setRow (.inr (Nat.le_refl _)) _⟩
  have hi : IsPart w1 (w.heap.size + 1) .F bs := ⟨Hp.out, fun i hi => by have := (Hq.out) i hi; simpa using this⟩
  exact (hi.chg (Chg.setRow (g := w.heap.size) (Chg.refl (fun k => k = w.heap.size) w1) (.inl rfl) _) (fun b hb e => by omega)).low (by omega)

set_option maxHeartbeats 1000000 in
set_option maxRecDepth 100000 in
theorem mk_S (w : World) : Calls Tryz.prog 89 #[] w fun e w' => ∃ bs : List Nat, e = .returned (.agg #[.func (.func 135) #[] (caps bs [0]), .func (.func 136) #[] (caps bs [0]), .func (.func 137) #[] (caps bs [0]), .func (.func 138) #[] (caps bs [])]) ∧ IsPart w' w.heap.size .S bs ∧ Chg (fun _ => False) w w' := by
  have hb := Blk.new w 88 #[.nilFunc, .nilFunc, .nilFunc, .nilFunc]
  have HT := Lib.hid (mk_free 110 (w.alloc (.cells #[.nilFunc, .nilFunc, .nilFunc, .nilFunc] 88)))
  go_enter Tryz.func89, Tryz.ntmps89
  go_wp2_with fail
  refine HT.out.mono ?_
  rintro e w1 ⟨bs, rfl, hp, hq, hc⟩
  have hb1 := hb.chg hc (fun h => h)
  have hst := st_p hb1 rfl
  have Hb := Lib.hid hb1
  have Hp := Lib.hid hp
  have Hq := Lib.hid hq
  clear hb hb1 hp hq
  go_wp2_with fail
  refine bodyPost_ret (results_cell_row rfl _ _ w.heap.size 88 _ (0, 0) _ rfl (Blk.setRow Hb.out _) Tryz.underlying88 rfl info_part) rfl ?_
  refine ⟨bs, rfl, ?_, (((Chg.refl _ w).alloc _).trans hc).setRow (.inr (Nat.le_refl _)) _⟩
  have hi : IsPart w1 (w.heap.size + 1) .S bs := ⟨Hp.out, fun i hi => by have := (Hq.out) i hi; simpa using this⟩
  exact (hi.chg (Chg.setRow (g := w.heap.size) (Chg.refl (fun k => k = w.heap.size) w1) (.inl rfl) _) (fun b hb e => by omega)).low (by omega)

set_option maxHeartbeats 1000000 in
set_option maxRecDepth 100000 in
theorem mk_f (w : World) : Calls Tryz.prog 121 #[] w fun e w' => ∃ bs : List Nat, e = .returned (.agg #[.func (.func 174) #[] (caps bs [0]), .func (.func 176) #[] (caps bs [0]), .func (.func 178) #[] (caps bs [0]), .func (.func 138) #[] (caps bs [])]) ∧ IsPart w' w.heap.size .f bs ∧ Chg (fun _ => False) w w' := by
  have hb := Blk.new w 88 #[.nilFunc, .nilFunc, .nilFunc, .nilFunc]
  have HT := Lib.hid (mk_truth 150 (w.alloc (.cells #[.nilFunc, .nilFunc, .nilFunc, .nilFunc] 88)))
  go_enter Tryz.func121, Tryz.ntmps121
  go_wp2_with fail
  refine HT.out.mono ?_
  rintro e w1 ⟨bs, rfl, hp, hq, hc⟩
  have hb1 := hb.chg hc (fun h => h)
  have hst := st_p hb1 rfl
  have Hb := Lib.hid hb1
  have Hp := Lib.hid hp
  have Hq := Lib.hid hq
  clear hb hb1 hp hq
  go_wp2_with fail
  refine bodyPost_ret (results_cell_row rfl _ _ w.heap.size 88 _ (0, 0) _ rfl (Blk.setRow Hb.out _) Tryz.underlying88 rfl info_part) rfl ?_
  refine ⟨bs, rfl, ?_, (((Chg.refl _ w).alloc _).trans hc).setRow (.inr (Nat.le_refl _)) _⟩
  have hi : IsPart w1 (w.heap.size + 1) .f bs := ⟨Hp.out, fun i hi => by have := (Hq.out) i hi; simpa using this⟩
  exact (hi.chg (Chg.setRow (g := w.heap.size) (Chg.refl (fun k => k = w.heap.size) w1) (.inl rfl) _) (fun b hb e => by omega)).low (by omega)

set_option maxHeartbeats 1000000 in
set_option maxRecDepth 100000 in
theorem mk_L (w : World) : Calls Tryz.prog 87 #[] w fun e w' => ∃ bs : List Nat, e = .returned (.agg #[.func (.func 145) #[] (caps bs [0]), .func (.func 146) #[] (caps bs [1, 3]), .func (.func 147) #[] (caps bs [1, 0]), .func (.func 148) #[] (caps bs [0, 2, 3])]) ∧ IsPart w' w.heap.size .L bs ∧ Chg (fun _ => False) w w' := by
  have hb := Blk.new w 88 #[.nilFunc, .nilFunc, .nilFunc, .nilFunc]
  have HT := Lib.hid (mk_small 107 108 0 256 (w.alloc (.cells #[.nilFunc, .nilFunc, .nilFunc, .nilFunc] 88)))
  go_enter Tryz.func87, Tryz.ntmps87
  go_wp2_with fail
  refine HT.out.mono ?_
  rintro e w1 ⟨bs, rfl, hp, hq, hc⟩
  have hb1 := hb.chg hc (fun h => h)
  have hst := st_p hb1 rfl
  have Hb := Lib.hid hb1
  have Hp := Lib.hid hp
  have Hq := Lib.hid hq
  clear hb hb1 hp hq
  go_wp2_with fail
  refine bodyPost_ret (results_cell_row rfl _ _ w.heap.size 88 _ (0, 0) _ rfl (Blk.setRow Hb.out _) Tryz.underlying88 rfl info_part) rfl ?_
  refine ⟨bs, rfl, ?_, (((Chg.refl _ w).alloc _).trans hc).setRow (.inr (Nat.le_refl _)) _⟩
  have hi : IsPart w1 (w.heap.size + 1) .L bs := ⟨Hp.out, fun i hi => by have := (Hq.out) i hi; simpa using this⟩
  exact (hi.chg (Chg.setRow (g := w.heap.size) (Chg.refl (fun k => k = w.heap.size) w1) (.inl rfl) _) (fun b hb e => by omega)).low (by omega)

set_option maxHeartbeats 1000000 in
set_option maxRecDepth 100000 in
theorem mk_C (w : World) : Calls Tryz.prog 122 #[] w fun e w' => ∃ bs : List Nat, e = .returned (.agg #[.func (.func 145) #[] (caps bs [0]), .func (.func 146) #[] (caps bs [1, 3]), .func (.func 147) #[] (caps bs [1, 0]), .func (.func 148) #[] (caps bs [0, 2, 3])]) ∧ IsPart w' w.heap.size .C bs ∧ Chg (fun _ => False) w w' := by
  have hb := Blk.new w 88 #[.nilFunc, .nilFunc, .nilFunc, .nilFunc]
  have HT := Lib.hid (mk_small 151 152 1 65535 (w.alloc (.cells #[.nilFunc, .nilFunc, .nilFunc, .nilFunc] 88)))
  go_enter Tryz.func122, Tryz.ntmps122
  go_wp2_with fail
  refine HT.out.mono ?_
  rintro e w1 ⟨bs, rfl, hp, hq, hc⟩
  have hb1 := hb.chg hc (fun h => h)
  have hst := st_p hb1 rfl
  have Hb := Lib.hid hb1
  have Hp := Lib.hid hp
  have Hq := Lib.hid hq
  clear hb hb1 hp hq
  go_wp2_with fail
  refine bodyPost_ret (results_cell_row rfl _ _ w.heap.size 88 _ (0, 0) _ rfl (Blk.setRow Hb.out _) Tryz.underlying88 rfl info_part) rfl ?_
  refine ⟨bs, rfl, ?_, (((Chg.refl _ w).alloc _).trans hc).setRow (.inr (Nat.le_refl _)) _⟩
  have hi : IsPart w1 (w.heap.size + 1) .C bs := ⟨Hp.out, fun i hi => by have := (Hq.out) i hi; simpa using this⟩
  exact (hi.chg (Chg.setRow (g := w.heap.size) (Chg.refl (fun k => k = w.heap.size) w1) (.inl rfl) _) (fun b hb e => by omega)).low (by omega)

set_option maxHeartbeats 1000000 in
set_option maxRecDepth 100000 in
theorem mk_t (w : World) : Calls Tryz.prog 125 #[] w fun e w' => ∃ bs : List Nat, e = .returned (.agg #[.func (.func 183) #[] (caps bs [0, 2]), .func (.func 185) #[] (caps bs [1, 3, 0]), .func (.func 187) #[] (caps bs [0]), .func (.func 188) #[] (caps bs [0, 1, 4])]) ∧ IsPart w' w.heap.size .t bs ∧ Chg (fun _ => False) w w' := by
  have hb := Blk.new w 88 #[.nilFunc, .nilFunc, .nilFunc, .nilFunc]
  have HT := Lib.hid (mk_list_dig 163 64 154 156 164 (w.alloc (.cells #[.nilFunc, .nilFunc, .nilFunc, .nilFunc] 88)))
  go_enter Tryz.func125, Tryz.ntmps125
  go_wp2_with fail
  refine HT.out.mono ?_
  rintro e w1 ⟨bs, rfl, hp, hq, hc⟩
  have hb1 := hb.chg hc (fun h => h)
  have hst := st_p hb1 rfl
  have Hb := Lib.hid hb1
  have Hp := Lib.hid hp
  have Hq := Lib.hid hq
  clear hb hb1 hp hq
  go_wp2_with fail
  refine bodyPost_ret (results_cell_row rfl _ _ w.heap.size 88 _ (0, 0) _ rfl (Blk.setRow Hb.out _) Tryz.underlying88 rfl info_part) rfl ?_
  refine ⟨bs, rfl, ?_, (((Chg.refl _ w).alloc _).trans hc).setRow (.inr (Nat.le_refl _)) _⟩
  have hi : IsPart w1 (w.heap.size + 1) .t bs := ⟨Hp.out, fun i hi => by have := (Hq.out) i hi; simpa using this⟩
  exact (hi.chg (Chg.setRow (g := w.heap.size) (Chg.refl (fun k => k = w.heap.size) w1) (.inl rfl) _) (fun b hb e => by omega)).low (by omega)

set_option maxHeartbeats 1000000 in
set_option maxRecDepth 100000 in
theorem mk_s (w : World) : Calls Tryz.prog 126 #[] w fun e w' => ∃ bs : List Nat, e = .returned (.agg #[.func (.func 183) #[] (caps bs [0, 2]), .func (.func 185) #[] (caps bs [1, 3, 0]), .func (.func 187) #[] (caps bs [0]), .func (.func 188) #[] (caps bs [0, 1, 4])]) ∧ IsPart w' w.heap.size .s bs ∧ Chg (fun _ => False) w w' := by
  have hb := Blk.new w 88 #[.nilFunc, .nilFunc, .nilFunc, .nilFunc]
  have HT := Lib.hid (mk_list_dig 165 64 154 156 164 (w.alloc (.cells #[.nilFunc, .nilFunc, .nilFunc, .nilFunc] 88)))
  go_enter Tryz.func126, Tryz.ntmps126
  go_wp2_with fail
  refine HT.out.mono ?_
  rintro e w1 ⟨bs, rfl, hp, hq, hc⟩
  have hb1 := hb.chg hc (fun h => h)
  have hst := st_p hb1 rfl
  have Hb := Lib.hid hb1
  have Hp := Lib.hid hp
  have Hq := Lib.hid hq
  clear hb hb1 hp hq
  go_wp2_with fail
  refine bodyPost_ret (results_cell_row rfl _ _ w.heap.size 88 _ (0, 0) _ rfl (Blk.setRow Hb.out _) Tryz.underlying88 rfl info_part) rfl ?_
  refine ⟨bs, rfl, ?_, (((Chg.refl _ w).alloc _).trans hc).setRow (.inr (Nat.le_refl _)) _⟩
  have hi : IsPart w1 (w.heap.size + 1) .s bs := ⟨Hp.out, fun i hi => by have := (Hq.out) i hi; simpa using this⟩
  exact (hi.chg (Chg.setRow (g := w.heap.size) (Chg.refl (fun k => k = w.heap.size) w1) (.inl rfl) _) (fun b hb e => by omega)).low (by omega)

set_option maxHeartbeats 1000000 in
set_option maxRecDepth 100000 in
theorem mk_H (w : World) : Calls Tryz.prog 123 #[] w fun e w' => ∃ bs : List Nat, e = .returned (.agg #[.func (.func 153) #[] (caps bs []), .func (.func 155) #[] (caps bs []), .func (.func 157) #[] (caps bs []), .func (.func 138) #[] (caps bs [])]) ∧ IsPart w' w.heap.size .H bs ∧ Chg (fun _ => False) w w' := by
  have hb := Blk.new w 88 #[.nilFunc, .nilFunc, .nilFunc, .nilFunc]
  have hst := st_p hb rfl
  have Hb := Lib.hid hb
  clear hb
  go_enter Tryz.func123, Tryz.ntmps123
  go_wp2_with fail
  refine bodyPost_ret (results_cell_row rfl _ _ w.heap.size 88 _ (0, 0) _ rfl (Blk.setRow Hb.out _) Tryz.underlying88 rfl info_part) rfl ?_
  exact ⟨[], rfl, ⟨fun i v hv => by simp [boxV] at hv, fun i hi => by simp [boxV] at hi⟩, ((Chg.refl _ w).alloc _).setRow (.inr (Nat.le_refl _)) _⟩

set_option maxHeartbeats 1000000 in
set_option maxRecDepth 100000 in
theorem mk_E (w : World) : Calls Tryz.prog 124 #[] w fun e w' => ∃ bs : List Nat, e = .returned (.agg #[.func (.func 158) #[] (caps bs []), .func (.func 159) #[] (caps bs []), .func (.func 160) #[] (caps bs []), .func (.func 161) #[] (caps bs [])]) ∧ IsPart w' w.heap.size .E bs ∧ Chg (fun _ => False) w w' := by
  have hb := Blk.new w 88 #[.nilFunc, .nilFunc, .nilFunc, .nilFunc]
  have hst := st_p hb rfl
  have Hb := Lib.hid hb
  clear hb
  go_enter Tryz.func124, Tryz.ntmps124
  go_wp2_with fail
  refine bodyPost_ret (results_cell_row rfl _ _ w.heap.size 88 _ (0, 0) _ rfl (Blk.setRow Hb.out _) Tryz.underlying88 rfl info_part) rfl ?_
  exact ⟨[], rfl, ⟨fun i v hv => by simp [boxV] at hv, fun i hi => by simp [boxV] at hi⟩, ((Chg.refl _ w).alloc _).setRow (.inr (Nat.le_refl _)) _⟩
end Go.Proofs.YthkfcfkkamffpaaGreat
