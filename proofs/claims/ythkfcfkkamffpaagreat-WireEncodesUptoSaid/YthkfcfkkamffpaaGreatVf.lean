/-
  Layer 27: the walk of WireEncodes.
-/
import Derived.Test.YthkfcfkkamffpaaGreatVb
import Derived.Test.YthkfcfkkamffpaaGreatVd
namespace Go.Proofs.YthkfcfkkamffpaaGreat
open Go.RowKit
set_option linter.unusedVariables false
set_option linter.unusedSimpArgs false
open Wm (M)
attribute [local go_sem ↓] ld_msg st_msg
set_option maxHeartbeats 8000000 in
set_option maxRecDepth 100000 in
theorem wireEncodes_walk (m : M) (L : Ls) (w : World) (hm : Nm m) (hl : IsL w m L) :
    Calls Tryz.prog 3 #[.agg (mcells m L)] w fun e w' => e = .returned (.bool true) ∧ Chg (fun _ => False) w w' := by
  have b0 : IsM (w.alloc (.cells (mcells m L) 36)) w.heap.size m L := Blk.new w 36 (mcells m L)
  have ch : Chg (fun _ => False) w (w.alloc (.cells (mcells m L) 36)) := (Chg.refl _ w).alloc _
  have Hm := Lib.hid hm
  have B0 := Lib.hid b0
  have Ch := Lib.hid ch
  have Hl := Lib.hid (hl.chg ch (LOff.no _))
  clear b0 ch hm hl
  go_enter Tryz.func3, Tryz.ntmps3
  go_upto_region 1 with fail
  generalize (w.alloc (.cells (mcells m L) 36)) = W at *
  have HR := rencode_calls m L W Hm.out Hl.out
  have HE := fun (L2 : Ls) (W3 : World) (h : IsL W3 m L2) => encode_calls m L2 W3 Hm.out h
  have HC := fun (L2 : Ls) (W3 : World) (h : IsL W3 m L2) => check_calls m L2 W3 Hm.out h
  unfold EncE at HR HE
  obtain ⟨t, ht⟩ : ∃ t, (encW m).1 = t := ⟨_, rfl⟩
  obtain ⟨c, hc⟩ : ∃ c, (encW m).2 = c := ⟨_, rfl⟩
  rw [ht, hc] at HR
  simp only [ht, hc] at HE HC
  have HR := Lib.hid HR
  have HE := Lib.hid HE
  have HC := Lib.hid HC
  clear ht hc
  have hld := ldM Hm.out.hd B0.out
  go_wp2_with fail
  refine HR.out.mono ?_
  rintro e w1 ⟨rfl, h1⟩
  have C1 := Lib.hid h1
  have hld1 := ldM Hm.out.hd (B0.out.chg h1 (fun h => h))
  clear h1 hld
  go_wp2_with fail
  refine (lent_calls m L w1 Hm.out (Hl.out.chg C1.out (LOff.no _))).mono ?_
  rintro e w2 ⟨L2, rfl, hlt, h2⟩
  have hst := stM (Blk.new w2 36 Tryz.zeroCells36) (by rw [zero_msg]; exact mc_len _ _ (only_dg 0 0)) Hm.out.hd (hlt.isl Hm.out).slc
  have b5 : IsM ((w2.alloc (.cells Tryz.zeroCells36 36)).setRow w2.heap.size (mcells m L2)) w2.heap.size m L2 := Blk.setRow (Blk.new w2 36 Tryz.zeroCells36) _
  have hcx : Chg (fun _ => False) w2 ((w2.alloc (.cells Tryz.zeroCells36 36)).setRow w2.heap.size (mcells m L2)) := Chg.setRow ((Chg.refl _ w2).alloc _) (.inr (Nat.le_refl _)) _
  have C3 := Lib.hid ((C1.out.trans h2).trans hcx)
  have B5 := Lib.hid b5
  have Hlt := Lib.hid (hlt.chg hcx (fun _ _ h => h))
  clear b5 hcx h2 hlt hld1
  go_upto_region 3 with fail
  generalize ((w2.alloc (.cells Tryz.zeroCells36 36)).setRow w2.heap.size (mcells m L2)) = w3 at *
  clear hst
  have hld5 := ldM Hm.out.hd B5.out
  go_wp2_with fail
  refine (HE.out L2 w3 (Hlt.out.isl Hm.out)).mono ?_
  rintro e w4 ⟨rfl, h4⟩
  have C4 := Lib.hid h4
  have hld6 := ldM Hm.out.hd (B5.out.chg h4 (fun h => h))
  clear h4 hld5
  go_wp2_with fail
  refine (HC.out L2 w4 ((Hlt.out.isl Hm.out).chg C4.out (LOff.no _))).mono ?_
  rintro e w5 ⟨rfl, h5⟩
  have C5 := Lib.hid (C4.out.trans h5)
  have hld7 := ldM Hm.out.hd (B5.out.chg C5.out (fun h => h))
  have hld8 := ldM Hm.out.hd (B0.out.chg (C3.out.trans C5.out) (fun h => h))
  clear h5 hld6
  go_wp2_with fail
  refine (kept_calls m L2 L w1.heap.size w5 Hm.out (Hlt.out.chg C5.out (fun _ _ h => h)) (Hl.out.chg (C3.out.trans C5.out) (LOff.no _))).mono ?_
  rintro e w6 ⟨rfl, h6⟩
  have C6 := Lib.hid ((C3.out.trans C5.out).trans h6)
  clear h6 hld7 hld8
  go_wp2_with fail
  refine (awake_calls w6).mono ?_
  rintro e w7 ⟨rfl, h7⟩
  go_wp2_with fail
  go_ret
  exact ⟨rfl, Ch.out.trans (C6.out.trans h7)⟩
end Go.Proofs.YthkfcfkkamffpaaGreat
