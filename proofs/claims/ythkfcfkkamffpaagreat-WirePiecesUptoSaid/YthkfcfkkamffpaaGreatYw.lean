/-
  Layer 27: the walk of WireBack.
-/
import Derived.Test.YthkfcfkkamffpaaGreatYt
namespace Go.Proofs.YthkfcfkkamffpaaGreat
open Go.RowKit
set_option linter.unusedVariables false
set_option linter.unusedSimpArgs false
open Wm (M)
theorem enc_err {m : M} (h : (encW m).2 ≠ 0) : (encW m).1 = [] := by
  unfold encW at h ⊢
  split
  · rfl
  · rename_i l hl
    rw [hl] at h
    dsimp only at h
    split
    · rename_i h1
      rw [if_pos h1] at h
      split
      · rfl
      · rename_i h2
        rw [if_neg h2] at h
        split
        · rfl
        · rename_i h3
          rw [if_neg h3] at h
          exact absurd rfl h
    · rfl
attribute [local go_sem ↓] ld_msg st_msg
set_option maxHeartbeats 8000000 in
set_option maxRecDepth 100000 in
theorem wireBack_walk (m : M) (L : Ls) (w : World) (hm : Nm m) (hl : IsL w m L) : Calls Tryz.prog 6 #[.agg (mcells m L)] w fun e w' => e = .returned (.bool true) ∧ Chg (fun _ => False) w w' := by
  have b0 : IsM (w.alloc (.cells (mcells m L) 36)) w.heap.size m L := Blk.new w 36 (mcells m L)
  have hE := fun (W : World) (h : IsL W m L) => encode_calls m L W hm h
  have hK := fun (W : World) (h : IsL W m L) => check_calls m L W hm h
  unfold EncE at hE
  have hz : (encW m).2 ≠ 0 → (encW m).1 = [] := enc_err
  have hd : (encW m).2 = 0 → decW (encW m).1 = (m, 0) ∧ 13 ≤ (encW m).1.length ∧ (encW m).1.length ≤ 1048576 := fun h => by
    have e : encW m = ((encW m).1, 0) := by rw [← h]
    exact ⟨dec_enc hm.ok e, enc_len e⟩
  generalize (encW m).1 = s at *
  generalize (encW m).2 = c at *
  have HA := Lib.hid awake_calls
  have HE := Lib.hid hE
  have HK := Lib.hid hK
  have Hz := Lib.hid hz
  have Hd := Lib.hid hd
  have B0 := Lib.hid b0
  have Hm := Lib.hid hm
  have Hl := Lib.hid (hl.chg ((Chg.refl (fun _ => False) w).alloc (.cells (mcells m L) 36)) (LOff.no _))
  clear hE hK hz hd b0 hm hl
  go_enter Tryz.func6, Tryz.ntmps6
  go_wp2_with fail
  refine (HA.out _).mono ?_
  rintro e w1 ⟨rfl, hc⟩
  have B1 := Lib.hid (B0.out.chg hc (fun h => h))
  have L1 := Lib.hid (Hl.out.chg hc (LOff.no _))
  have C1 := Lib.hid (((Chg.refl (fun _ => False) w).alloc (.cells (mcells m L) 36)).trans hc)
  have hld1 := ldM Hm.out.hd B1.out
  clear hc
  go_wp2_with fail
  refine (HE.out w1 L1.out).mono ?_
  rintro e w2 ⟨rfl, hc⟩
  have B2 := Lib.hid (B1.out.chg hc (fun h => h))
  have L2 := Lib.hid (L1.out.chg hc (LOff.no _))
  have C2 := Lib.hid (C1.out.trans hc)
  have hld2 := ldM Hm.out.hd B2.out
  clear hc hld1
  go_wp2_with fail
  refine (HK.out w2 L2.out).mono ?_
  rintro e w3 ⟨rfl, hc⟩
  have B3 := Lib.hid (B2.out.chg hc (fun h => h))
  have L3 := Lib.hid (L2.out.chg hc (LOff.no _))
  have C3 := Lib.hid (C2.out.trans hc)
  have hld3 := ldM Hm.out.hd B3.out
  clear hc hld2
  by_cases hc0 : c = 0
  case neg =>
    have q1 : ((c : Int) != 0) = true := by rw [bne_iff_ne]; omega
    have hs := Hz.out hc0
    subst hs
    clear hc0
    go_wp2_with fail
    go_ret
    exact ⟨rfl, C3.out⟩
  obtain ⟨h1, h2, h3⟩ := Hd.out hc0
  subst hc0
  have HD := decode_calls s w3 (by omega)
  unfold DecE at HD
  rw [h1] at HD
  have HD := Lib.hid HD
  have q13 : decide ((13 : Int) ≤ (s.length : Int)) = true := decide_eq_true (by omega)
  have q13' : decide (13 ≤ s.length) = true := decide_eq_true (by omega)
  have q20 : decide ((s.length : Int) ≤ 1048576) = true := decide_eq_true (by omega)
  have q20' : decide (s.length ≤ 1048576) = true := decide_eq_true (by omega)
  clear h1 hld3
  go_wp2_with fail
  refine HD.out.mono ?_
  rintro e w4 ⟨K, rfl, hol, hc⟩
  have hst := stM (Blk.new w4 36 Tryz.zeroCells36) (by rw [zero_msg]; exact mc_len _ _ (only_dg 0 0)) Hm.out.hd hol.isl.slc
  have hmm : IsM ((w4.alloc (.cells Tryz.zeroCells36 36)).setRow w4.heap.size (mcells m K)) w4.heap.size m K := Blk.setRow (Blk.new w4 36 Tryz.zeroCells36) _
  have hcx : Chg (fun _ => False) w4 ((w4.alloc (.cells Tryz.zeroCells36 36)).setRow w4.heap.size (mcells m K)) := Chg.setRow ((Chg.refl _ w4).alloc _) (.inr (Nat.le_refl _)) _
  have B4 := Lib.hid (B3.out.chg (hc.trans hcx) (fun h => h))
  have L4 := Lib.hid (L3.out.chg (hc.trans hcx) (LOff.no _))
  have K4 := Lib.hid ((hol.chg hcx (fun _ h => h.elim)).isl)
  have M4 := Lib.hid hmm
  have C4 := Lib.hid (C3.out.trans (hc.trans hcx))
  clear hol hmm hc hcx
  go_upto_region 9 with fail
  generalize (w4.alloc (.cells Tryz.zeroCells36 36)).setRow w4.heap.size (mcells m K) = w5 at *
  clear hst
  have hlda := ldM Hm.out.hd M4.out
  have hldb := ldM Hm.out.hd B4.out
  have HS := msame_calls m m K L w5 Hm.out Hm.out K4.out L4.out
  rw [decide_eq_true rfl] at HS
  have HS := Lib.hid HS
  go_wp2_with fail
  refine HS.out.mono ?_
  rintro e w6 ⟨rfl, hc⟩
  go_wp2_with fail
  go_ret
  exact ⟨rfl, C4.out.trans hc⟩
end Go.Proofs.YthkfcfkkamffpaaGreat
