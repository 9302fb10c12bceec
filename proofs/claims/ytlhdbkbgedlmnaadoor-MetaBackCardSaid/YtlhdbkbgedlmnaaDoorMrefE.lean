/-
  Layer 6: the document's Encode.
-/
import Derived.Test.YtlhdbkbgedlmnaaDoorMref
namespace Go.Proofs.YtlhdbkbgedlmnaaDoor
open Go.RowKit
set_option linter.unusedVariables false
attribute [local go_sem ↓] loadDig_eq ldM_eq

set_option maxHeartbeats 4000000 in
set_option maxRecDepth 100000 in
theorem rencode_calls (f : Mt.F) (m : Mt.M) (w : World) (hm : m.Ok) :
    Calls Tryd.prog 15 #[FV f, .agg (mcells m)] w fun e w' => e = .returned (.tuple #[S (encS f m), .int .i64 (chk f m)]) ∧ Chg (fun _ => False) w w' := by
  have Hms := Lib.hid hm.sum
  have Hmo := Lib.hid hm
  have q0 := FM.new w f m
  have hch := ((Chg.refl (fun _ => False) w).alloc (.cells #[.int .i64 f.page, .int .i64 f.width] 23)).alloc (.cells (mcells m) 31)
  have l0 := q0.ld Hms.out
  by_cases hok : Mt.ok f m = true
  · have hF := (ok_iff.1 hok).1
    obtain ⟨N, hN1, -, -⟩ := lg_pow hF
    obtain ⟨p, wd⟩ := f
    dsimp only at hN1 hch
    obtain rfl := hN1
    have hN : 1024 ≤ N ∧ N ≤ 8192 := by
      have := (Mt.mayF_iff.1 hF).1
      dsimp only at this
      omega
    obtain ⟨hNa, hNb⟩ := hN
    obtain ⟨q, hq⟩ : ∃ q : Nat, (N : Int) - 80 = (q : Int) := ⟨N - 80, by omega⟩
    have He := Lib.hid (encS_yes hok)
    have Hc := Lib.hid (chk_yes hok)
    have Henc := Lib.hid (show Mt.enc ⟨N, wd⟩ m = Mt.rec ⟨N, wd⟩ m ++ Mt.zs q from by unfold Mt.enc; congr 2; dsimp only; omega)
    obtain ⟨R, hR⟩ : ∃ R, R = Mt.rec ⟨N, wd⟩ m := ⟨_, rfl⟩
    have hRl : R.length = 80 := by rw [hR]; exact Mt.rec_length ⟨N, wd⟩ m Hms.out
    have Hrec := Lib.hid (fun w => bytes_calls ⟨N, wd⟩ m w Hmo.out hF)
    rw [← hR] at Hrec Henc
    have hql : q ≤ 8192 := by omega
    have hqw : IntKind.i64.wrap (q : Int) = (q : Int) := IntWalk.i64_in _ (by omega)
    have hadd := fun w => addS R (Mt.zs q) (by simp [Mt.zs]; omega) w
    clear hok hF hR hm
    go_enter Tryd.func15, Tryd.ntmps15
    go_wp2_with fail
    refine (rcheck_calls ⟨N, wd⟩ m _ Hmo.out).mono ?_
    rintro e w1 ⟨rfl, hc1⟩
    rw [Hc.out]
    have q1 := q0.chg hc1
    have hch1 := hch.trans hc1
    clear l0 q0 hch hc1
    go_wp2_with fail
    have hd := hch1.drew
    have q1d := q1.chg ((Chg.refl _ w1).drew)
    have kf0 := q1d.f0
    have kf1 := q1d.f1
    dsimp only at kf0 kf1
    have kld := q1d.ld Hms.out
    go_region_with (first
        | (go_at_call 28; refine (Hrec.out _).mono ?_; rintro e w' ⟨rfl, hc⟩; have q1d := FM.chg (by assumption) hc; have hd := Chg.trans (show Chg (fun _ => False) w _ by assumption) hc; have kf0 := q1d.f0; have kf1 := q1d.f1; dsimp only at kf0 kf1; have kld := q1d.ld Hms.out)
        | (go_at_call 29; refine (noughts_calls q _ (by omega)).mono ?_; rintro e w' ⟨rfl, hc⟩; have q1d := FM.chg (by assumption) hc; have hd := Chg.trans (show Chg (fun _ => False) w _ by assumption) hc; have kf0 := q1d.f0; have kf1 := q1d.f1; dsimp only at kf0 kf1; have kld := q1d.ld Hms.out))
    all_goals
      go_wp2_with fail
      go_ret2
      exact ⟨ret_Si (by rw [He.out, Henc.out]) Hc.out.symm, hd⟩
  · have He := Lib.hid (encS_no hok)
    have Hc := Lib.hid (chk_no hok)
    clear hok
    go_enter Tryd.func15, Tryd.ntmps15
    go_wp2_with fail
    refine (rcheck_calls f m _ hm).mono ?_
    rintro e w1 ⟨rfl, hc1⟩
    rw [Hc.out]
    clear l0 q0 hm
    go_wp2_with fail
    go_ret2
    exact ⟨ret_Si He.out.symm Hc.out.symm, hch.trans hc1⟩
end Go.Proofs.YtlhdbkbgedlmnaaDoor
