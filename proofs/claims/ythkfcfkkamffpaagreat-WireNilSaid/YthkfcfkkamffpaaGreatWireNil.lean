/-
  WireNil answers true: no Reader holds nothing and tells nothing; a Reader that was given up tells nothing more. For every start of the program; there is no argument and no condition.
-/
import Derived.Test.YthkfcfkkamffpaaGreatRead
import Derived.Test.YthkfcfkkamffpaaGreatYt
namespace Go.Proofs.YthkfcfkkamffpaaGreat.wireNil
open Go.ChangeShapes Go.WideShapes Go.ChangeAt Go.RowKit
set_option linter.unusedVariables false

theorem feed_eight : feedW [0, 0, 0, 8] = ([], 271, []) := by
  have h : foll [0, 0, 0, 8] = (0, 271) := by
    have hn : Pk.num ([0, 0, 0, 8].take 4) = 8 := by decide
    unfold foll
    rw [hn, if_pos (by decide)]
  have := feed_foll (s := [0, 0, 0, 8]) (by decide) (by rw [h]; decide)
  rw [h] at this
  exact this
set_option maxHeartbeats 8000000 in
set_option maxRecDepth 100000 in
theorem walk (w : World) : Calls Tryz.prog 12 #[] w fun e w' => e = .returned (.bool true) ∧ Chg (fun _ => False) w w' := by
  have hE : ∀ W, Calls Tryz.prog 17 #[.agg (mcells plainM nolist)] W fun e w' => e = .returned (.tuple #[S plainS, .int .i64 0]) ∧ Chg (fun _ => False) W w' := fun W => (encode_calls plainM nolist W plain_nm (plain_isl W)).mono fun e w' h => by
    unfold EncE at h
    rw [plain_enc] at h
    exact h
  have hP : ∀ (W : World) (g : Nat), IsRd W g [] 0 → Calls Tryz.prog 26 #[pt g, S [0, 0, 0, 8]] W fun e w' => ∃ A c, e = .returned (.tuple #[.slice A 0 c, .int .i64 271]) ∧ IsRd w' g [] 271 ∧ Chg (fun k => k = g) W w' := fun W g h => (push_calls g [] [0, 0, 0, 8] 0 W h (by decide)).mono fun e w' ⟨v, X, h1, h2, h3, h4, h5, h6⟩ => by
    have hw : pushW [] 0 [0, 0, 0, 8] = ([], 271, [], 271) := by
      unfold pushW
      rw [if_neg (by omega), List.nil_append, feed_eight]
    rw [hw] at h1 h2 h5
    obtain ⟨ao, cp, rfl⟩ := own_form h3
    have hx : X.length = 0 := by have := congrArg List.length h2; simpa using this
    rw [hx] at h1
    exact ⟨ao, cp, h1, h5, h6⟩
  have hQ : ∀ (W : World) (g : Nat), IsRd W g [] 271 → Calls Tryz.prog 26 #[pt g, S plainS] W fun e w' => ∃ A c, e = .returned (.tuple #[.slice A 0 c, .int .i64 271]) ∧ IsRd w' g [] 271 ∧ Chg (fun k => k = g) W w' := fun W g h => (push_calls g [] plainS 271 W h (by rw [List.nil_append, plain_len]; decide)).mono fun e w' ⟨v, X, h1, h2, h3, h4, h5, h6⟩ => by
    have hw : pushW [] 271 plainS = ([], 271, [], 271) := by
      unfold pushW
      rw [if_pos (by omega)]
    rw [hw] at h1 h2 h5
    obtain ⟨ao, cp, rfl⟩ := own_form h3
    have hx : X.length = 0 := by have := congrArg List.length h2; simpa using this
    rw [hx] at h1
    exact ⟨ao, cp, h1, h5, h6⟩
  have HE := Lib.hid hE
  have HP := Lib.hid hP
  have HQ := Lib.hid hQ
  clear hE hP hQ
  go_enter Tryz.func12, Tryz.ntmps12
  go_wp2_with fail
  refine (push_nil [120] w).mono ?_
  rintro e w1 ⟨rfl, rfl⟩
  have Hrd := Lib.hid (show IsRd (w.alloc (.cells #[S [], .int .i64 0] 54)) w.heap.size [] 0 from Blk.new w _ _)
  go_wp2_with fail
  refine (HP.out _ _ Hrd.out).mono ?_
  rintro e w2 ⟨A, c, rfl, hrd, hc⟩
  have Hrd := Lib.hid hrd
  have Hc2 := Lib.hid (((Chg.refl (fun _ => False) w).alloc (.cells #[S [], .int .i64 0] 54)).andThen hc (fun k hk e => by omega))
  clear hrd hc
  go_wp2_with fail
  refine (plain_calls w2).mono ?_
  rintro e w3 ⟨rfl, hc⟩
  have Hrd := Lib.hid (Hrd.out.chg hc (fun h => h))
  have Hc3 := Lib.hid (Hc2.out.trans hc)
  clear hc
  go_wp2_with fail
  refine (HE.out w3).mono ?_
  rintro e w4 ⟨rfl, hc⟩
  have Hrd := Lib.hid (Hrd.out.chg hc (fun h => h))
  have Hc4 := Lib.hid (Hc3.out.trans hc)
  clear hc
  go_wp2_with fail
  refine (HQ.out _ _ Hrd.out).mono ?_
  rintro e w5 ⟨A2, c2, rfl, hrd, hc⟩
  have Hrd := Lib.hid hrd
  have Hc5 := Lib.hid (Hc4.out.andThen hc (fun k hk e => by omega))
  clear hrd hc
  go_wp2_with fail
  refine (held_nil w5).mono ?_
  rintro e w6 ⟨rfl, rfl⟩
  go_wp2_with fail
  refine (state_nil w5).mono ?_
  rintro e w6 ⟨rfl, rfl⟩
  go_wp2_with fail
  refine (held_calls _ [] 271 w5 Hrd.out).mono ?_
  rintro e w6 ⟨rfl, rfl⟩
  go_wp2_with fail
  refine (state_calls _ [] 271 w5 Hrd.out).mono ?_
  rintro e w6 ⟨rfl, rfl⟩
  go_wp2_with fail
  refine (awake_calls w5).mono ?_
  rintro e w6 ⟨rfl, hc⟩
  go_wp2_with fail
  go_ret
  exact ⟨rfl, Hc5.out.trans hc⟩

set_option maxRecDepth 100000 in
theorem lifted (os : Os) (started : os.Started) (H : Type) (enc : TypeId × Value → H) :
    ReturnsInHanded {} Tryz.checked os 12 .any (Rows.wireNilSpec.pre6 enc Tryz.prog Tryz.f12 Rows.wireNilRow.domain false) (Rows.wireNilSpec.post enc Tryz.prog Tryz.f12 false true false false) := by
  refine returnsInHanded_of_change (C := Tryz.checked) own started (by kernel_rfl) Tryz.func12
    (ChangeSpec.witness6 (enc := enc) (C := Tryz.checked) false ⟨#[], #[], []⟩ 8 (by kernel_rfl) (by kernel_rfl) (by kernel_rfl) (by kernel_rfl)) ?_
  intro W base args ds gs before hval hW hcnd _
  have hW0 := hW
  obtain ⟨p, q, hA, hV, rfl, hfz, hnd⟩ := hW0
  have hA' : DataW.TrodAll enc Tryz.prog W 0 (fun _ => true) true Tryz.f12.params.toList args.toList ds p := hA
  rw [Tryz.params12] at hA'
  obtain ⟨rfl, rfl, rfl⟩ := trodAll_none hA'
  obtain ⟨rfl, rfl⟩ := trodVars_none hV
  refine (walk W).mono fun e W' ⟨he, hc⟩ => ⟨_, he, law_post rfl rfl (by kernel_rfl) hW rfl (below_of hc)⟩

theorem over : Rows.wireNilRow.holds Tryz.pinned (OpenSpec.ofChange Rows.wireNilSpec) :=
  OpenClaim.holds_of_wide 12 Tryz.f12 rfl rfl rfl rfl rfl rfl rfl ⟨rfl, rfl, rfl, rfl, rfl⟩ rfl rfl rfl rfl rfl (by kernel_rfl) Tryz.func12 (by kernel_rfl)
    (of_decide_eq_true (by kernel_rfl)) (by unfold Func.isWrapper; first | (rw [if_pos (by decide +kernel)]; kernel_rfl) | (rw [if_neg (by decide +kernel)]; exact ⟨rfl, rfl⟩))
    (fun os started H enc _ => lifted os started H enc)

theorem proved : Rows.WireNilSaid := over
#print axioms proved
end Go.Proofs.YthkfcfkkamffpaaGreat.wireNil
