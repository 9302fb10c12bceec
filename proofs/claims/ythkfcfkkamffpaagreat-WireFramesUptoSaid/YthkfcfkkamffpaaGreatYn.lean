/-
  Layer 27: the program's Decode: its early ways out; how it ends.
-/
import Derived.Test.YthkfcfkkamffpaaGreatYl
namespace Go.Proofs.YthkfcfkkamffpaaGreat
open Go.RowKit
set_option linter.unusedVariables false
set_option linter.unusedSimpArgs false
open Wm (M)
/-- the results read -/
theorem res_dec {w : World} {g2 g3 : Nat} {m : M} {L : Ls} {c : Int} (hd : Dg m) (h2 : IsM w g2 m L) (h3 : Blk w g3 24 #[.int .i64 c]) (t : Array Value) (e2 : t.getD 2 undef = pt g2) (e3 : t.getD 3 undef = pt g3) :
    (results Tryz.f22 t).run Tryz.prog w = .ok (.tuple #[.agg (mcells m L), .int .i64 c]) w := by
  have hc : w.cell? ⟨g3, 0, none⟩ = some (.int .i64 c) := h3.cell 0
  have e2' : t[2]?.getD undef = pt g2 := by simpa using e2
  have e3' : t[3]?.getD undef = pt g3 := by simpa using e3
  have l2 := run_loadVar_row w g2 36 36 _ (0, 0) _ h2 Tryz.underlying36 rfl (by rw [mc_len m L hd]; exact info_msg)
  have l3 : (loadVar 24 ⟨g3, 0, none⟩).run Tryz.prog w = .ok (.int .i64 c) w := by
    simp [loadVar, isAgg, underlying, Tryz.underlying24, Result.andThen, hc]
  simp [results, Tryz.results22, e2', e3', asAddr, l2, l3]
/-- what Decode comes to -/
def DecE (s : List UInt8) (w w' : World) (e : Ending) : Prop := ∃ L, e = .returned (.tuple #[.agg (mcells (decW s).1 L), .int .i64 ((decW s).2 : Nat)]) ∧ OwnL w' w.heap.size (decW s).1 L ∧ Chg (fun _ => False) w w'
theorem own_zero (w : World) (b k i : Nat) : OwnL w b (Wm.only k i) nolist := ⟨World.ownsRow_nil _ _ _ _, World.ownsRow_nil _ _ _ _, World.ownsRow_nil _ _ _ _, World.ownsRow_nil _ _ _ _⟩
/-- it ends in the door: a panic with bad is caught -/
theorem dec_bad {s : List UInt8} {w wx : World} {m : M} {L : Ls} {c : Int} (he : decW s = (zeroM, 271)) (hd : Dg m) (h2 : IsM wx w.heap.size m L) (h3 : Blk wx (w.heap.size + 1) 24 #[.int .i64 c]) (hc : Chg (fun _ => False) w wx)
    (t : Array Value) (e2 : t.getD 2 undef = pt w.heap.size) (e3 : t.getD 3 undef = pt (w.heap.size + 1)) :
    bodyPostD Tryz.prog Tryz.f22 (fun e w' => DecE s w w' e) (Exit.panic [badP false]) { tmps := t, defers := [{ target := .fn (.func 52) #[pt w.heap.size, pt (w.heap.size + 1)], args := #[] }] } wx := by
  refine leaves_cons (f := 52) (args := #[pt w.heap.size, pt (w.heap.size + 1)]) (by simp) (by simp [go_sem]) ?_
  refine (catch_panicking w.heap.size (w.heap.size + 1) m L c [] wx hd h2 h3 (by omega)).mono ?_
  rintro e u' w' ⟨rfl, rfl, h4, h5, h6⟩
  refine ⟨_, res_dec (only_dg 0 0) h4 h5 t e2 e3, nolist, ?_, ?_, hc.andThen h6 (fun k hk h => by omega)⟩
  · rw [he]; rfl
  · rw [he]; exact own_zero _ _ _ _
/-- it ends in the door: a return -/
theorem dec_door {s : List UInt8} {w wx : World} {m : M} {L : Ls} (he : decW s = (m, 0)) (hd : Dg m) (h2 : IsM wx w.heap.size m L) (h3 : Blk wx (w.heap.size + 1) 24 #[.int .i64 0]) (hc : Chg (fun _ => False) w wx) (ho : OwnL wx w.heap.size m L)
    (t : Array Value) (e2 : t.getD 2 undef = pt w.heap.size) (e3 : t.getD 3 undef = pt (w.heap.size + 1)) :
    bodyPostD Tryz.prog Tryz.f22 (fun e w' => DecE s w w' e) Exit.ret { tmps := t, defers := [{ target := .fn (.func 52) #[pt w.heap.size, pt (w.heap.size + 1)], args := #[] }] } wx := by
  refine leaves_cons (f := 52) (args := #[pt w.heap.size, pt (w.heap.size + 1)]) (by simp) (by simp [go_sem]) ?_
  refine (catch_idle w.heap.size (w.heap.size + 1) wx).mono ?_
  rintro e u' w' ⟨rfl, rfl, rfl⟩
  exact ⟨_, res_dec hd h2 h3 t e2 e3, L, by rw [he]; rfl, by rw [he]; exact ho, hc⟩
/-- it ends ahead of the door -/
theorem dec_out {s : List UInt8} {w wx : World} {n : Nat} (he : decW s = (zeroM, n)) (h2 : IsM wx w.heap.size zeroM nolist) (h3 : Blk wx (w.heap.size + 1) 24 #[.int .i64 n]) (hc : Chg (fun _ => False) w wx)
    (t : Array Value) (e2 : t.getD 2 undef = pt w.heap.size) (e3 : t.getD 3 undef = pt (w.heap.size + 1)) :
    bodyPostD Tryz.prog Tryz.f22 (fun e w' => DecE s w w' e) Exit.ret { tmps := t, defers := [] } wx := by
  refine ⟨_, res_dec (only_dg 0 0) h2 h3 t e2 e3, nolist, by rw [he]; rfl, by rw [he]; exact own_zero _ _ _ _, hc⟩
/-- the two results' places, new -/
noncomputable def W0 (w : World) : World := (w.alloc (.cells Tryz.zeroCells36 36)).alloc (.cells #[.int .i64 0] 24)
theorem w0_msg (w : World) : IsM (W0 w) w.heap.size zeroM nolist := by
  refine IsM.alloc ?_ _
  show Blk _ _ _ (mcells (Wm.only 0 0) nolist)
  rw [zero_msg]
  exact Blk.new w _ _
theorem w0_err (w : World) : Blk (W0 w) (w.heap.size + 1) 24 #[.int .i64 0] := by
  have := Blk.new (w.alloc (.cells Tryz.zeroCells36 36)) 24 #[.int .i64 0]
  unfold W0
  simpa using this
theorem w0_chg (w : World) : Chg (fun _ => False) w (W0 w) := ((Chg.refl _ w).alloc _).alloc _
theorem w0_size (w : World) : (W0 w).heap.size = w.heap.size + 2 := by simp [W0]
theorem foll_pos {s : List UInt8} (h : (foll s).2 = 0) : 9 ≤ (foll s).1 ∧ (foll s).1 + 4 ≤ 1048576 := by
  unfold foll at h ⊢
  split
  · rename_i h1; rw [if_pos h1] at h; cases h
  · rename_i h1
    rw [if_neg h1] at h
    split
    · rename_i h2; rw [if_pos h2] at h; cases h
    · dsimp only; omega
attribute [local go_sem ↓] ld_msg st_msg
set_option maxHeartbeats 2000000 in
set_option maxRecDepth 100000 in
theorem dec_stub (s : List UInt8) (w : World) (h4 : s.length < 4) : Calls Tryz.prog 22 #[S s] w fun e w' => DecE s w w' e := by
  have he : decW s = (zeroM, 272) := by unfold decW; rw [if_pos h4]
  have d4 : decide ((s.length : Int) < 4) = true := decide_eq_true (by omega)
  have d4' : decide (s.length < 4) = true := decide_eq_true h4
  have hl4 : s.length < 9223372036854775808 := by omega
  have h2 := w0_msg w
  have h3 := w0_err w
  have hc := w0_chg w
  have He := Lib.hid he
  clear h4 he
  go_enter_defers Tryz.func22, Tryz.ntmps22
  go_upto_region 1 with fail
  unfold W0 at h2 h3 hc
  generalize hz : ((w.alloc (.cells Tryz.zeroCells36 36)).alloc (.cells #[.int .i64 0] 24)) = wz at *
  clear hz
  have hld := ldM (only_dg 0 0) h2
  have hst := stM h2 (mc_len _ _ (only_dg 0 0)) (only_dg 0 0) slc_no
  have h2' : IsM (wz.setRow w.heap.size (mcells zeroM nolist)) w.heap.size zeroM nolist := Blk.setRow h2 _
  have hcx : Chg (fun k => k = w.heap.size) wz (wz.setRow w.heap.size (mcells zeroM nolist)) := Chg.setRow (g := w.heap.size) (Chg.refl (fun k => k = w.heap.size) wz) (.inl rfl) _
  have h3' := h3.chg hcx (fun e => by omega)
  have f0 := h3'.cell 0
  have z0 := h3'.frozen 0
  have H2 := Lib.hid h2'
  have H3 := Lib.hid h3'
  have Hc := Lib.hid (hc.andThen hcx (fun k hk e => by omega))
  clear h2 h2' h3 h3' hc hcx
  unfold zeroM at *
  go_wp2_with fail
  refine dec_out He.out (Blk.far H2.out (by simp) _) (Blk.set_ H3.out 0 _) (Hc.out.setCell (.inr (by simp)) _) _ rfl rfl
set_option maxHeartbeats 2000000 in
set_option maxRecDepth 100000 in
theorem dec_foll (s : List UInt8) (w : World) (h4 : 4 ≤ s.length) (hsl : s.length ≤ 140737488355328) (hf : (foll s).2 ≠ 0) : Calls Tryz.prog 22 #[S s] w fun e w' => DecE s w w' e := by
  have he : decW s = (zeroM, (foll s).2) := by unfold decW; rw [if_neg (by omega), if_pos hf]
  have d4 : decide ((s.length : Int) < 4) = false := decide_eq_false (by omega)
  have d4' : decide (s.length < 4) = false := decide_eq_false (by omega)
  have h2 := w0_msg w
  have h3 := w0_err w
  have hc := w0_chg w
  have He := Lib.hid he
  have HF := Lib.hid (fun w => follow_calls s w h4 hsl)
  unfold FolE at HF
  obtain ⟨n, hn⟩ : ∃ n, (foll s).1 = n := ⟨_, rfl⟩
  obtain ⟨c, hcc⟩ : ∃ c, (foll s).2 = c := ⟨_, rfl⟩
  rw [hn, hcc] at HF
  rw [hcc] at He hf
  have q0 : ((c : Int) == 0) = false := beq_eq_false_iff_ne.2 (by omega)
  clear h4 he hn hcc hf
  go_enter_defers Tryz.func22, Tryz.ntmps22
  go_upto_region 1 with fail
  unfold W0 at h2 h3 hc
  generalize hz : ((w.alloc (.cells Tryz.zeroCells36 36)).alloc (.cells #[.int .i64 0] 24)) = wz at *
  clear hz
  have H2 := Lib.hid h2
  have H3 := Lib.hid h3
  have Hc := Lib.hid hc
  clear h2 h3 hc
  go_wp2_with fail
  refine (HF.out wz).mono ?_
  rintro e w1 ⟨rfl, hc1⟩
  have h2 := H2.out.chg hc1 (fun h => h)
  have h3 := H3.out.chg hc1 (fun h => h)
  have hc' := Hc.out.trans hc1
  clear hc1 H2 H3 Hc wz
  have f0 := h3.cell 0
  have z0 := h3.frozen 0
  have g2 := IsM.chg h2 (Chg.setCell (Chg.refl (fun k => k = w.heap.size + 1) w1) (p := ⟨w.heap.size + 1, 0, none⟩) (.inl rfl) (.int .i64 c)) (fun e => by omega)
  have g3 := h3.set_ 0 (.int .i64 c)
  have hg := hc'.setCell (p := ⟨w.heap.size + 1, 0, none⟩) (.inr (by simp)) (.int .i64 c)
  have H2 := Lib.hid g2
  have H3 := Lib.hid g3
  have Hc := Lib.hid hg
  clear h2 h3 hc' g2 g3 hg
  go_upto_region 4 with fail
  generalize hz : w1.setCell ⟨w.heap.size + 1, 0, none⟩ (.int .i64 c) = wy at *
  clear hz f0 z0 w1
  have f1 : wy.cell? ⟨w.heap.size + 1, 0, none⟩ = some (.int .i64 c) := H3.out.cell 0
  have z1 := H3.out.frozen 0
  have hld := ldM (w := wy.drew) (only_dg 0 0) H2.out
  have hst := stM (w := wy.drew) (m := Wm.only 0 0) (L := nolist) H2.out (mc_len _ _ (only_dg 0 0)) (only_dg 0 0) slc_no
  have h2' : IsM (wy.drew.setRow w.heap.size (mcells (Wm.only 0 0) nolist)) w.heap.size (Wm.only 0 0) nolist := Blk.setRow (w := wy.drew) H2.out _
  have hcx : Chg (fun k => k = w.heap.size) wy (wy.drew.setRow w.heap.size (mcells (Wm.only 0 0) nolist)) := Chg.setRow (g := w.heap.size) ((Chg.refl (fun k => k = w.heap.size) wy).drew) (.inl rfl) _
  have h3' := H3.out.chg hcx (fun e => by omega)
  have f2 : (wy.drew.setRow w.heap.size (mcells (Wm.only 0 0) nolist)).cell? ⟨w.heap.size + 1, 0, none⟩ = some (.int .i64 c) := h3'.cell 0
  have z2 := h3'.frozen 0
  have H2' := Lib.hid h2'
  have H3' := Lib.hid h3'
  have Hc' := Lib.hid (Hc.out.andThen hcx (fun k hk e => by omega))
  clear h2' h3' hcx
  go_upto_region 5 with fail
  go_region
  all_goals
    go_wp2_with fail
    exact dec_out He.out (Blk.far H2'.out (by simp) _) (Blk.set_ H3'.out 0 _) (Hc'.out.setCell (.inr (by simp)) _) _ rfl rfl
set_option maxHeartbeats 2000000 in
set_option maxRecDepth 100000 in
theorem dec_short (s : List UInt8) (w : World) (h4 : 4 ≤ s.length) (hsl : s.length ≤ 140737488355328) (hf : (foll s).2 = 0) (hl : s.length - 4 < (foll s).1) : Calls Tryz.prog 22 #[S s] w fun e w' => DecE s w w' e := by
  have he : decW s = (zeroM, 272) := by unfold decW; rw [if_neg (by omega), if_neg (by omega), if_pos hl]
  have d4 : decide ((s.length : Int) < 4) = false := decide_eq_false (by omega)
  have d4' : decide (s.length < 4) = false := decide_eq_false (by omega)
  have h2 := w0_msg w
  have h3 := w0_err w
  have hc := w0_chg w
  have He := Lib.hid he
  have HF := Lib.hid (fun w => follow_calls s w h4 hsl)
  unfold FolE at HF
  obtain ⟨n, hn⟩ : ∃ n, (foll s).1 = n := ⟨_, rfl⟩
  rw [hn, hf] at HF
  rw [hn] at hl
  have dl : decide ((s.length : Int) - 4 < (n : Int)) = true := decide_eq_true (by omega)
  clear he hn hf hl
  go_enter_defers Tryz.func22, Tryz.ntmps22
  go_upto_region 1 with fail
  unfold W0 at h2 h3 hc
  generalize hz : ((w.alloc (.cells Tryz.zeroCells36 36)).alloc (.cells #[.int .i64 0] 24)) = wz at *
  clear hz
  have H2 := Lib.hid h2
  have H3 := Lib.hid h3
  have Hc := Lib.hid hc
  clear h2 h3 hc
  go_wp2_with fail
  refine (HF.out wz).mono ?_
  rintro e w1 ⟨rfl, hc1⟩
  have h2 := H2.out.chg hc1 (fun h => h)
  have h3 := H3.out.chg hc1 (fun h => h)
  have hc' := Hc.out.trans hc1
  clear hc1 H2 H3 Hc wz
  have f0 := h3.cell 0
  have z0 := h3.frozen 0
  have g2 := IsM.chg h2 (Chg.setCell (Chg.refl (fun k => k = w.heap.size + 1) w1) (p := ⟨w.heap.size + 1, 0, none⟩) (.inl rfl) (.int .i64 0)) (fun e => by omega)
  have g3 := h3.set_ 0 (.int .i64 0)
  have hg := hc'.setCell (p := ⟨w.heap.size + 1, 0, none⟩) (.inr (by simp)) (.int .i64 0)
  have H2 := Lib.hid g2
  have H3 := Lib.hid g3
  have Hc := Lib.hid hg
  clear h2 h3 hc' g2 g3 hg
  go_upto_region 4 with fail
  generalize hz : w1.setCell ⟨w.heap.size + 1, 0, none⟩ (.int .i64 0) = wy at *
  clear hz f0 z0 w1
  have f1 : wy.cell? ⟨w.heap.size + 1, 0, none⟩ = some (.int .i64 0) := H3.out.cell 0
  have z1 := H3.out.frozen 0
  have hld := ldM (w := wy) (only_dg 0 0) H2.out
  have hst := stM (w := wy) (m := Wm.only 0 0) (L := nolist) H2.out (mc_len _ _ (only_dg 0 0)) (only_dg 0 0) slc_no
  have h2' : IsM (wy.setRow w.heap.size (mcells (Wm.only 0 0) nolist)) w.heap.size (Wm.only 0 0) nolist := Blk.setRow H2.out _
  have hcx : Chg (fun k => k = w.heap.size) wy (wy.setRow w.heap.size (mcells (Wm.only 0 0) nolist)) := Chg.setRow (g := w.heap.size) (Chg.refl (fun k => k = w.heap.size) wy) (.inl rfl) _
  have h3' := H3.out.chg hcx (fun e => by omega)
  have f2 := h3'.cell 0
  have z2 := h3'.frozen 0
  have H2' := Lib.hid h2'
  have H3' := Lib.hid h3'
  have Hc' := Lib.hid (Hc.out.andThen hcx (fun k hk e => by omega))
  clear h2' h3' hcx
  go_wp2_with fail
  exact dec_out He.out (Blk.far H2'.out (by simp) _) (Blk.set_ H3'.out 0 _) (Hc'.out.setCell (.inr (by simp)) _) _ rfl rfl
end Go.Proofs.YthkfcfkkamffpaaGreat
