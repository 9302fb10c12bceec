/-
  Layer 27: the walk of WireAgain.
-/
import Derived.Test.YthkfcfkkamffpaaGreatYt
namespace Go.Proofs.YthkfcfkkamffpaaGreat
open Go.RowKit
set_option linter.unusedVariables false
set_option linter.unusedSimpArgs false
open Wm (M)
attribute [local go_sem ↓] ld_msg st_msg
set_option maxHeartbeats 8000000 in
set_option maxRecDepth 100000 in
theorem wireAgain_walk (s : List UInt8) (w : World) (hs : s.length ≤ 1048576) : Calls Tryz.prog 7 #[S s] w fun e w' => e = .returned (.bool true) ∧ Chg (fun _ => False) w w' := by
  have HA := Lib.hid (awake_calls w)
  have HD := Lib.hid (fun W => decode_calls s W (by omega))
  unfold DecE at HD
  have Hnm := Lib.hid (decW_nm s)
  have Herr := Lib.hid (decW_err s)
  obtain ⟨m, c, hd⟩ : ∃ m c, decW s = (m, c) := ⟨_, _, rfl⟩
  have Henc := Lib.hid (fun (h : c = 0) => enc_dec (m := m) (s := s) (by rw [hd, h]))
  rw [hd] at HD Hnm Herr
  dsimp only at HD Hnm Herr
  clear hd
  go_enter Tryz.func7, Tryz.ntmps7
  go_wp2_with fail
  refine HA.out.mono ?_
  rintro e w1 ⟨rfl, hc⟩
  have Hc1 := Lib.hid hc
  clear hc
  go_wp2_with fail
  refine (HD.out w1).mono ?_
  rintro e w2 ⟨L, rfl, hol, hc⟩
  have hst := stM (Blk.new w2 36 Tryz.zeroCells36) (by rw [zero_msg]; exact mc_len _ _ (only_dg 0 0)) Hnm.out.hd hol.isl.slc
  have hm : IsM ((w2.alloc (.cells Tryz.zeroCells36 36)).setRow w2.heap.size (mcells m L)) w2.heap.size m L := Blk.setRow (Blk.new w2 36 Tryz.zeroCells36) _
  have hcx : Chg (fun _ => False) w2 ((w2.alloc (.cells Tryz.zeroCells36 36)).setRow w2.heap.size (mcells m L)) := Chg.setRow ((Chg.refl _ w2).alloc _) (.inr (Nat.le_refl _)) _
  have Hol := Lib.hid ((hol.chg hcx (fun _ h => h.elim)).isl)
  have Hm := Lib.hid hm
  have Hc2 := Lib.hid ((Hc1.out.trans hc).trans hcx)
  clear hol hm hc hcx
  go_upto_region 4 with fail
  generalize (w2.alloc (.cells Tryz.zeroCells36 36)).setRow w2.heap.size (mcells m L) = w3 at *
  clear hst
  have hld := ldM Hnm.out.hd Hm.out
  by_cases hc0 : c = 0
  · have he := Henc.out hc0
    have HE := Lib.hid (encode_calls m L w3 Hnm.out Hol.out)
    unfold EncE at HE
    rw [he] at HE
    subst hc0
    clear he
    go_wp2_with fail
    refine HE.out.mono ?_
    rintro e w4 ⟨rfl, hc⟩
    go_wp2_with fail
    go_ret
    exact ⟨rfl, Hc2.out.trans hc⟩
  · obtain ⟨hz, h3⟩ := Herr.out hc0
    subst hz
    have HS := msame_calls zeroM zeroM L nolist w3 Hnm.out (only_nm (by omega) (by omega)) Hol.out (zero_isl w3)
    rw [decide_eq_true rfl, ← zero_agg2] at HS
    have HS := Lib.hid HS
    have q0 : ((c : Int) != 0) = true := by rw [bne_iff_ne]; omega
    have H3 := Lib.hid h3
    clear hc0 h3
    go_wp2_with fail
    refine HS.out.mono ?_
    rintro e w4 ⟨rfl, hc⟩
    rcases H3.out with rfl | rfl | rfl
    all_goals
      go_wp2_with fail
      go_ret
      exact ⟨rfl, Hc2.out.trans hc⟩
end Go.Proofs.YthkfcfkkamffpaaGreat
