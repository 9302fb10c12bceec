/-
  Layer 6: the program's Encode.
-/
import Derived.Test.YtlhdbkbgedlmnaaDoorMrec
import Derived.Laws.IdiomStrings
namespace Go.Proofs.YtlhdbkbgedlmnaaDoor
open Go.RowKit
set_option linter.unusedVariables false
attribute [local go_sem ↓] loadDig_eq ldM_eq

/-- a text joined to another one -/
theorem addS (a b : List UInt8) (h : a.length + b.length ≤ 9223372036854775807) (w : World) : (Op.stringOp .add ⟨a.toArray⟩ ⟨b.toArray⟩).run Tryd.prog w = .ok (S (a ++ b)) w := by
  have := run_string_add_sum (P := Tryd.prog) (w := w) (⟨a.toArray⟩ : ByteArray) ⟨b.toArray⟩ (by simpa [ByteArray.size] using h)
  rw [this, ByteArray.mk_append_mk]
/-- Encode's text -/
def encS (f : Mt.F) (m : Mt.M) : List UInt8 := if Mt.ok f m = true then Mt.enc f m else []
theorem encS_yes {f : Mt.F} {m : Mt.M} (h : Mt.ok f m = true) : encS f m = Mt.enc f m := by unfold encS; rw [if_pos h]
theorem encS_no {f : Mt.F} {m : Mt.M} (h : ¬ Mt.ok f m = true) : encS f m = [] := by unfold encS; rw [if_neg h]
theorem ret_Si {a b : List UInt8} {x y : Int} (h : a = b) (h2 : x = y) : Ending.returned (.tuple #[S a, .int .i64 x]) = .returned (.tuple #[S b, .int .i64 y]) := by rw [h, h2]

set_option maxHeartbeats 2000000 in
set_option maxRecDepth 100000 in
theorem encode_calls (f : Mt.F) (m : Mt.M) (w : World) (hm : m.Ok) :
    Calls Tryd.prog 16 #[FV f, .agg (mcells m)] w fun e w' => e = .returned (.tuple #[S (encS f m), .int .i64 (chk f m)]) ∧ Chg (fun _ => False) w w' := by
  have Hms := Lib.hid hm.sum
  have Hmo := Lib.hid hm
  have q0 := FM.new w f m
  have hch := ((Chg.refl (fun _ => False) w).alloc (.cells #[.int .i64 f.page, .int .i64 f.width] 23)).alloc (.cells (mcells m) 31)
  have l0 := q0.ld Hms.out
  by_cases hok : Mt.ok f m = true
  · have hF := (ok_iff.1 hok).1
    obtain ⟨N, hN1, -, -⟩ := lg_pow hF
    have hN : 1024 ≤ N ∧ N ≤ 8192 := by
      have := (Mt.mayF_iff.1 hF).1
      omega
    obtain ⟨hNa, hNb⟩ := hN
    obtain ⟨q, hq⟩ : ∃ q : Nat, (N : Int) - 80 = (q : Int) := ⟨N - 80, by omega⟩
    have He := Lib.hid (encS_yes hok)
    have Hc := Lib.hid (chk_yes hok)
    have Henc := Lib.hid (show Mt.enc f m = Mt.rec f m ++ Mt.zs q from by unfold Mt.enc; congr 2; rw [hN1]; omega)
    obtain ⟨R, hR⟩ : ∃ R, R = Mt.rec f m := ⟨_, rfl⟩
    have hRl : R.length = 80 := by rw [hR]; exact Mt.rec_length f m Hms.out
    have Hrec := Lib.hid (fun w => record_calls f m w Hmo.out hF)
    rw [← hR] at Hrec Henc
    have hql : q ≤ 8192 := by omega
    have hmk := make_zeros q (by omega)
    have hcv : ∀ w : World, (convert 54 9 (.slice (some ⟨w.heap.size, 0, none⟩) q q)).run Tryd.prog (w.alloc (.cells (zcells q) 5)) = .ok (S (Mt.zs q)) (w.alloc (.cells (zcells q) 5)) := fun w => conv_cells _ _ q _ _ (Blk.new w 5 (zcells q)) (by simp [Mt.zs])
    have hadd := fun w => addS R (Mt.zs q) (by simp [Mt.zs]; omega) w
    have HN1 := Lib.hid hN1
    clear hok hF hR hm hN1
    go_enter Tryd.func16, Tryd.ntmps16
    go_wp2_with fail
    refine (check_calls f m _ Hmo.out).mono ?_
    rintro e w1 ⟨rfl, hc1⟩
    rw [Hc.out]
    have q1 := q0.chg hc1
    have l1 := q1.ld Hms.out
    have kf0 := q1.f0
    have kf1 := q1.f1
    clear l0 q0
    go_wp2_with fail
    refine (Hrec.out _).mono ?_
    rintro e w2 ⟨rfl, hc2⟩
    have q2 := q1.chg hc2
    have kf0 : w2.cell? ⟨w.heap.size, 0, none⟩ = some (.int .i64 (N : Int)) := by rw [q2.f0, HN1.out]
    clear l1 q1 kf1
    go_wp2_with fail
    go_ret2
    refine ⟨?_, ((hch.trans hc1).trans hc2).alloc _⟩
    exact ret_Si (by rw [He.out, Henc.out]) Hc.out.symm
  · have He := Lib.hid (encS_no hok)
    have Hc := Lib.hid (chk_no hok)
    clear hok
    go_enter Tryd.func16, Tryd.ntmps16
    go_wp2_with fail
    refine (check_calls f m _ hm).mono ?_
    rintro e w1 ⟨rfl, hc1⟩
    rw [Hc.out]
    clear l0 q0 hm
    go_wp2_with fail
    go_ret2
    exact ⟨ret_Si He.out.symm Hc.out.symm, hch.trans hc1⟩
end Go.Proofs.YtlhdbkbgedlmnaaDoor
