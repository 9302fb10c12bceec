/-
  Layer 27: the walk of WireSames.
-/
import Derived.Test.YthkfcfkkamffpaaGreatZr
import Derived.Test.YthkfcfkkamffpaaGreatZs
import Derived.BigRegion
import Derived.Deep.RegionHeld3
namespace Go.Proofs.YthkfcfkkamffpaaGreat
open Go.RowKit
set_option linter.unusedVariables false
set_option linter.unusedSimpArgs false
open Wm (M)
attribute [local go_sem ↓] ld_msg st_msg
set_option maxHeartbeats 8000000 in
set_option maxRecDepth 100000 in
theorem wireSames_walk (m n : M) (L K : Ls) (w : World) (hm : Nm m) (hn : Nm n) (hl : IsL w m L) (hk : IsL w n K) :
    Calls Tryz.prog 5 #[.agg (mcells m L), .agg (mcells n K)] w fun e w' => e = .returned (.bool true) ∧ Chg (fun _ => False) w w' := by
  have b0 : IsM ((w.alloc (.cells (mcells m L) 36)).alloc (.cells (mcells n K) 36)) w.heap.size m L := (Blk.new w 36 (mcells m L)).alloc _
  have b1 : IsM ((w.alloc (.cells (mcells m L) 36)).alloc (.cells (mcells n K) 36)) (w.heap.size + 1) n K := by
    have := Blk.new (w.alloc (.cells (mcells m L) 36)) 36 (mcells n K)
    simpa [IsM] using this
  have ch : Chg (fun _ => False) w ((w.alloc (.cells (mcells m L) 36)).alloc (.cells (mcells n K) 36)) := ((Chg.refl _ w).alloc _).alloc _
  have Hm := Lib.hid hm
  have Hn := Lib.hid hn
  have B0 := Lib.hid b0
  have B1 := Lib.hid b1
  have Ch := Lib.hid ch
  have Hl := Lib.hid (hl.chg ch (LOff.no _))
  have Hk := Lib.hid (hk.chg ch (LOff.no _))
  clear b0 b1 ch hm hn hl hk
  go_enter Tryz.func5, Tryz.ntmps5
  go_upto_region 1 with fail
  generalize ((w.alloc (.cells (mcells m L) 36)).alloc (.cells (mcells n K) 36)) = W at *
  have HP := Lib.hid (fun (w' : World) (hc : Chg (fun _ => False) W w') => msame_calls m n L K w' Hm.out Hn.out (Hl.out.chg hc (LOff.no _)) (Hk.out.chg hc (LOff.no _)))
  have HR := Lib.hid (fun (w' : World) (hc : Chg (fun _ => False) W w') => rsame_calls m n L K w' Hm.out Hn.out (Hl.out.chg hc (LOff.no _)) (Hk.out.chg hc (LOff.no _)))
  have HL := Lib.hid (fun (w' : World) (hc : Chg (fun _ => False) W w') => lent_calls m L w' Hm.out (Hl.out.chg hc (LOff.no _)))
  have HT := Lib.hid (fun (w' : World) (base : Nat) (L2 : Ls) (h : LentL w' base m L2) (hc : Chg (fun _ => False) W w') => (show Calls Tryz.prog 25 #[.agg (mcells m L2), .agg (mcells m L)] w' fun e w'' => e = .returned (.bool true) ∧ Chg (fun _ => False) w' w'' by
    have := msame_calls m m L2 L w' Hm.out Hm.out (h.isl Hm.out) (Hl.out.chg hc (LOff.no _))
    rwa [decide_eq_true rfl] at this))
  have HA := Lib.hid (fun (w' : World) => awake_calls w')
  have mk : ∀ w', Chg (fun _ => False) W w' → (Chg (fun _ => False) W w' ∧ (ldAgg 36 (.pointer (some ⟨w.heap.size, 0, none⟩))).run Tryz.prog w' = .ok (.agg (mcells m L)) w' ∧ (ldAgg 36 (.pointer (some ⟨w.heap.size + 1, 0, none⟩))).run Tryz.prog w' = .ok (.agg (mcells n K)) w') :=
    fun w' hc => ⟨hc, ldM Hm.out.hd (B0.out.chg hc (fun h => h)), ldM Hn.out.hd (B1.out.chg hc (fun h => h))⟩
  have Mk := Lib.hid mk
  clear mk
  have C0 := Lib.hid ((Chg.refl (fun _ => False) W).drew)
  obtain ⟨d, hd⟩ : ∃ d, decide (m = n) = d := ⟨_, rfl⟩
  rw [hd] at HP HR
  clear hd
  cases d
  all_goals
    go_region_held3 (fun w' => Chg (fun _ => False) W w' ∧ (ldAgg 36 (.pointer (some ⟨w.heap.size, 0, none⟩))).run Tryz.prog w' = .ok (.agg (mcells m L)) w' ∧ (ldAgg 36 (.pointer (some ⟨w.heap.size + 1, 0, none⟩))).run Tryz.prog w' = .ok (.agg (mcells n K)) w')
      (first | exact Mk.out _ (Chg.trans (And.left (by assumption)) hc) | exact Mk.out _ C0.out | go_keep)
      (first
        | ((go_at_call 25; with_reducible refine (HP.out _ (And.left (by assumption))).mono ?_); rintro e w' ⟨rfl, hc⟩)
        | ((go_at_call 23; with_reducible refine (HR.out _ (And.left (by assumption))).mono ?_); rintro e w' ⟨rfl, hc⟩)
        | ((go_at_call 16; with_reducible refine (HL.out _ (And.left (by assumption))).mono ?_); rintro e w' ⟨L2, rfl, hlt, hc⟩)
        | ((go_at_call 25; with_reducible refine (HT.out _ _ _ (by assumption) (And.left (by assumption))).mono ?_); rintro e w' ⟨rfl, hc⟩)
        | ((go_at_call 20; with_reducible refine (HA.out _).mono ?_); rintro e w' ⟨rfl, hc⟩))
    all_goals
      rename_i hH
      have cz := hH.1
      clear hH
      have Cz := Lib.hid (Ch.out.trans cz)
      clear cz
      go_wp2_with fail
      go_ret
      exact ⟨rfl, Cz.out⟩
end Go.Proofs.YthkfcfkkamffpaaGreat
