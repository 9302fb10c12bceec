/-
  Layer 6: the program's parse: the walk.
-/
import Derived.Test.YtlhdbkbgedlmnaaDoorMpar
import Derived.Deep.RegionWith
namespace Go.Proofs.YtlhdbkbgedlmnaaDoor
open Go.RowKit
set_option linter.unusedVariables false
set_option linter.unusedSimpArgs false
attribute [local go_sem ↓] loadDig_eq ldM_eq stF_eq stM_eq stD_eq

set_option maxHeartbeats 4000000 in
set_option maxRecDepth 100000 in
theorem parse_calls (s : List UInt8) (w : World) (hs : s.length = 80) :
    Calls Tryd.prog 34 #[S s] w fun e w' => e = .returned (.tuple #[FV (Mt.fF s), .agg (mcells (Mt.fM s)), .bool (Mt.good s)]) ∧ Chg (fun _ => False) w w' := by
  have hs1 : s.length ≤ 140737488355328 := by omega
  go_enter Tryd.func34, Tryd.ntmps34
  go_wp2_with fail
  refine (open_calls s _ hs1).mono ?_
  rintro e w1 ⟨rfl, h1, hb, hz⟩
  have P := Prs.new h1 hb
  clear h1 hb hz
  go_wp2_with fail
  generalize w.heap.size + 1 + 1 + 1 + 1 = g at *
  generalize w.heap.size + 1 + 1 + 1 = b6 at *
  generalize w.heap.size + 1 + 1 = b5 at *
  generalize w.heap.size + 1 = b3 at *
  obtain ⟨b2, hb2⟩ : ∃ b, w.heap.size = b := ⟨_, rfl⟩
  rw [hb2] at P ⊢
  have Hb2 := Lib.hid hb2
  clear hb2
  refine (prs_u32 P 4 rfl (by omega)).mono ?_
  rintro e w' ⟨rfl, P⟩
  go_wp2_with fail
  refine (prs_u8 P 5 rfl (by omega)).mono ?_
  rintro e w' ⟨rfl, P⟩
  have x4 := Mt.fld_lt s 4 1
  rw [show (256 : Nat) ^ 1 = 256 from by decide] at x4
  have c := P.f0
  have z := P.k5.frozen 0
  go_wp2_with fail
  clear c z
  refine (prs_u8 (P.setF0 _) 6 rfl (by omega)).mono ?_
  rintro e w' ⟨rfl, P⟩
  have x5 := Mt.fld_lt s 5 1
  rw [show (256 : Nat) ^ 1 = 256 from by decide] at x5
  have hcw : IntKind.i64.wrap (Mt.fld s 5 1 : Int) = (Mt.fld s 5 1 : Int) := IntWalk.i64_in _ (by omega)
  have c := P.f1
  have z := P.k5.frozen 1
  go_wp2_with fail
  clear c z
  refine (prs_u16 (P.setF1 _) 8 rfl (by omega)).mono ?_
  rintro e w' ⟨rfl, P⟩
  go_wp2_with fail
  refine (prs_u64 P 16 rfl (by omega)).mono ?_
  rintro e w' ⟨rfl, P⟩
  have c := P.c0
  have z := P.k6.frozen 0
  go_wp2_with fail
  clear c z
  refine (prs_u64 (P.setM 0 _ _ (mcells_set0 _ (Mt.fld s 8 8)) P.sum) 24 rfl (by omega)).mono ?_
  rintro e w' ⟨rfl, P⟩
  have c := P.c34
  have z := P.k6.frozen 34
  go_wp2_with fail
  clear c z
  refine (prs_u64 (P.setM 34 _ _ (mcells_set34 _ P.sum (Mt.fld s 16 8)) P.sum) 32 rfl (by omega)).mono ?_
  rintro e w' ⟨rfl, P⟩
  have c := P.c35
  have z := P.k6.frozen 35
  go_wp2_with fail
  clear c z
  refine (prs_u32 (P.setM 35 _ _ (mcells_set35 _ P.sum (Mt.fld s 24 8)) P.sum) 36 rfl (by omega)).mono ?_
  rintro e w' ⟨rfl, P⟩
  have c := P.c1
  have z := P.k6.frozen 1
  go_wp2_with fail
  clear c z
  refine (prs_u32 (P.setM 1 _ _ (mcells_set1 _ (Mt.fld s 32 4)) P.sum) 40 rfl (by omega)).mono ?_
  rintro e w' ⟨rfl, P⟩
  have c := P.c36
  have z := P.k6.frozen 36
  go_wp2_with fail
  clear c z
  refine (prs_u32 (P.setM 36 _ _ (mcells_set36 _ P.sum (Mt.fld s 36 4)) P.sum) 44 rfl (by omega)).mono ?_
  rintro e w' ⟨rfl, P⟩
  have c := P.c37
  have z := P.k6.frozen 37
  go_wp2_with fail
  clear c z
  refine (prs_dig (P.setM 37 _ _ (mcells_set37 _ P.sum (Mt.fld s 40 4)) P.sum) 76 rfl (by omega)).mono ?_
  rintro e w' ⟨rfl, P⟩
  have hdl : ((s.drop 44).take 32).length = 32 := by simp; omega
  have hst : (stAgg 27 (.pointer (some ⟨b6, 2, none⟩)) (.agg (bys ((s.drop 44).take 32)).toArray)).run Tryd.prog w' = .ok () (w'.setRow b6 (mcells (Mt.fM s))) := stD_of P.k6 P.sum _ hdl
  have hF : (⟨wrap64 (2 ^ (Mt.fld s 4 1 % 32)), (Mt.fld s 5 1 : Nat)⟩ : Mt.F) = Mt.fF s := by
    unfold Mt.fF
    congr 1
    have : (2 : Nat) ^ (Mt.fld s 4 1 % 32) ≤ 2 ^ 31 := Nat.pow_le_pow_right (by decide) (by omega)
    rw [show (2 : Nat) ^ 31 = 2147483648 from by decide] at this
    have e : (2 : Int) ^ (Mt.fld s 4 1 % 32) = ((2 ^ (Mt.fld s 4 1 % 32) : Nat) : Int) := by simp
    rw [e]
    generalize (2 : Nat) ^ (Mt.fld s 4 1 % 32) = q at *
    unfold wrap64
    omega
  rw [hF] at P
  have Q := (P.setRow (mcells (Mt.fM s)) (Mt.fM s) rfl hdl).wide
  have HP := Lib.hid P
  clear P x4 x5 hcw hdl hF
  generalize hwz : w'.setRow b6 (mcells (Mt.fM s)) = wz at Q hst
  have Hwz := Lib.hid hwz
  clear hwz
  have hmo : (Mt.fM s).Ok := Mt.fM_ok (by omega)
  have Hmo := Lib.hid hmo
  clear hmo
  go_wp2_with fail
  have hms := Q.sum
  have k := fun n => (Q.quiet ((Chg.refl _ wz).drewN n))
  cases hok : Mt.ok (Mt.fF s) (Mt.fM s)
  · have Hc := Lib.hid (chk_no (f := Mt.fF s) (m := Mt.fM s) (by rw [hok]; simp))
    have Hg := Lib.hid (show Mt.good s = false by unfold Mt.good; rw [hok]; rfl)
    clear hok
    refine wp_region_held_drew (S := (fun w' => PSays w b2 b3 b5 b6 g ⟨s, 76, 0⟩ (Mt.fF s) (Mt.fM s) w')) (by kernel_rfl) (Q.quiet ((Chg.refl _ wz).drew)).said (fun hHeld => ?_)
    refine wpAnyH_take (i := 0) (v := (.agg #[.int .i64 (Mt.fF s).page, .int .i64 (Mt.fF s).width])) rfl (by kernel_rfl) (by kernel_rfl) (by kernel_rfl) (fun _ _ _ h => h) (Or.inl ⟨by rfl, ?_⟩) hHeld ?_
    · intro w hSw
      obtain ⟨s1, s2, s3, s4, s5, -⟩ := hSw
      go_simp
    try simp only [Act.put, List.getElem_toArray, List.getElem_cons_zero, List.getElem_cons_succ, List.setIfInBounds_toArray, List.set_cons_zero, List.set_cons_succ]
    refine wpAnyH_take (i := 1) (v := (.agg (mcells (Mt.fM s)))) rfl (by kernel_rfl) (by kernel_rfl) (by kernel_rfl) (fun _ _ _ h => h) (Or.inl ⟨by rfl, ?_⟩) hHeld ?_
    · intro w hSw
      obtain ⟨s1, s2, s3, s4, s5, -⟩ := hSw
      go_simp
    try simp only [Act.put, List.getElem_toArray, List.getElem_cons_zero, List.getElem_cons_succ, List.setIfInBounds_toArray, List.set_cons_zero, List.set_cons_succ]
    refine wpAnyH_take (i := 2) (v := (.pointer (some ⟨g, 0, none⟩))) rfl (by kernel_rfl) (by kernel_rfl) (by kernel_rfl) (fun _ _ _ h => h) (Or.inl ⟨by rfl, ?_⟩) hHeld ?_
    · intro w hSw
      obtain ⟨s1, s2, s3, s4, s5, -⟩ := hSw
      go_simp
    try simp only [Act.put, List.getElem_toArray, List.getElem_cons_zero, List.getElem_cons_succ, List.setIfInBounds_toArray, List.set_cons_zero, List.set_cons_succ]
    refine wpAnyH_ready (rs := [3]) (by kernel_rfl) (by simp) (AllReadyH.cons rfl (fun K hK => ?_) AllReadyH.nil)
    go_simp
    refine (fault_no g _ _ hHeld.pw.kr rfl).mono ?_; rintro e w' ⟨rfl, rfl⟩
    refine hK.out _ _ (hHeld) (fun hHeld => ?_)
    clear hK K
    try simp only [Act.put, List.getElem_toArray, List.getElem_cons_zero, List.getElem_cons_succ, List.setIfInBounds_toArray, List.set_cons_zero, List.set_cons_succ]
    refine wpAnyH_take (i := 4) (v := (.bool true)) rfl (by kernel_rfl) (by kernel_rfl) (by kernel_rfl) (fun _ _ _ h => h) (Or.inl ⟨by rfl, ?_⟩) hHeld ?_
    · intro w hSw
      obtain ⟨s1, s2, s3, s4, s5, -⟩ := hSw
      go_simp
    try simp only [Act.put, List.getElem_toArray, List.getElem_cons_zero, List.getElem_cons_succ, List.setIfInBounds_toArray, List.set_cons_zero, List.set_cons_succ]
    refine wpAnyH_take (i := 5) (v := (.bool true)) rfl (by kernel_rfl) (by kernel_rfl) (by kernel_rfl) (fun _ _ _ h => h) (Or.inl ⟨by rfl, ?_⟩) hHeld ?_
    · intro w hSw
      obtain ⟨s1, s2, s3, s4, s5, -⟩ := hSw
      go_simp
    try simp only [Act.put, List.getElem_toArray, List.getElem_cons_zero, List.getElem_cons_succ, List.setIfInBounds_toArray, List.set_cons_zero, List.set_cons_succ]
    refine wpAnyH_take (i := 6) (v := (.agg #[.int .i64 (Mt.fF s).page, .int .i64 (Mt.fF s).width])) rfl (by kernel_rfl) (by kernel_rfl) (by kernel_rfl) (fun _ _ _ h => h) (Or.inl ⟨by rfl, ?_⟩) hHeld ?_
    · intro w hSw
      obtain ⟨s1, s2, s3, s4, s5, -⟩ := hSw
      go_simp
    try simp only [Act.put, List.getElem_toArray, List.getElem_cons_zero, List.getElem_cons_succ, List.setIfInBounds_toArray, List.set_cons_zero, List.set_cons_succ]
    refine wpAnyH_take (i := 7) (v := (.agg (mcells (Mt.fM s)))) rfl (by kernel_rfl) (by kernel_rfl) (by kernel_rfl) (fun _ _ _ h => h) (Or.inl ⟨by rfl, ?_⟩) hHeld ?_
    · intro w hSw
      obtain ⟨s1, s2, s3, s4, s5, -⟩ := hSw
      go_simp
    try simp only [Act.put, List.getElem_toArray, List.getElem_cons_zero, List.getElem_cons_succ, List.setIfInBounds_toArray, List.set_cons_zero, List.set_cons_succ]
    refine wpAnyH_ready (rs := [8]) (by kernel_rfl) (by simp) (AllReadyH.cons rfl (fun K hK => ?_) AllReadyH.nil)
    go_simp
    refine (check_calls (Mt.fF s) (Mt.fM s) _ Hmo.out).mono ?_; rintro e w' ⟨rfl, hc⟩; rw [Hc.out]
    refine hK.out _ _ ((hHeld.pw.quiet hc).said) (fun hHeld => ?_)
    clear hK K
    try simp only [Act.put, List.getElem_toArray, List.getElem_cons_zero, List.getElem_cons_succ, List.setIfInBounds_toArray, List.set_cons_zero, List.set_cons_succ]
    refine wpAnyH_take (i := 9) (v := (.bool false)) rfl (by kernel_rfl) (by kernel_rfl) (by kernel_rfl) (fun _ _ _ h => h) (Or.inl ⟨by rfl, ?_⟩) hHeld ?_
    · intro w hSw
      obtain ⟨s1, s2, s3, s4, s5, -⟩ := hSw
      go_simp
    try simp only [Act.put, List.getElem_toArray, List.getElem_cons_zero, List.getElem_cons_succ, List.setIfInBounds_toArray, List.set_cons_zero, List.set_cons_succ]
    refine wpAnyH_take (i := 10) (v := (.bool false)) rfl (by kernel_rfl) (by kernel_rfl) (by kernel_rfl) (fun _ _ _ h => h) (Or.inl ⟨by rfl, ?_⟩) hHeld ?_
    · intro w hSw
      obtain ⟨s1, s2, s3, s4, s5, -⟩ := hSw
      go_simp
    try simp only [Act.put, List.getElem_toArray, List.getElem_cons_zero, List.getElem_cons_succ, List.setIfInBounds_toArray, List.set_cons_zero, List.set_cons_succ]
    refine wpAnyH_take (i := 11) (v := (.bool false)) rfl (by kernel_rfl) (by kernel_rfl) (by kernel_rfl) (fun _ _ _ h => h) (Or.inl ⟨by rfl, ?_⟩) hHeld ?_
    · intro w hSw
      obtain ⟨s1, s2, s3, s4, s5, -⟩ := hSw
      go_simp
    try simp only [Act.put, List.getElem_toArray, List.getElem_cons_zero, List.getElem_cons_succ, List.setIfInBounds_toArray, List.set_cons_zero, List.set_cons_succ]
    refine wpAnyH_take (i := 12) (v := undef) rfl (by kernel_rfl) (by kernel_rfl) (by kernel_rfl) (fun _ _ _ h => h) (Or.inr ⟨by rfl, rfl⟩) hHeld ?_
    try simp only [Act.put, List.getElem_toArray, List.getElem_cons_zero, List.getElem_cons_succ, List.setIfInBounds_toArray, List.set_cons_zero, List.set_cons_succ]
    refine wpAnyH_take (i := 13) (v := undef) rfl (by kernel_rfl) (by kernel_rfl) (by kernel_rfl) (fun _ _ _ h => h) (Or.inr ⟨by rfl, rfl⟩) hHeld ?_
    try simp only [Act.put, List.getElem_toArray, List.getElem_cons_zero, List.getElem_cons_succ, List.setIfInBounds_toArray, List.set_cons_zero, List.set_cons_succ]
    refine wpAnyH_take (i := 14) (v := undef) rfl (by kernel_rfl) (by kernel_rfl) (by kernel_rfl) (fun _ _ _ h => h) (Or.inr ⟨by rfl, rfl⟩) hHeld ?_
    try simp only [Act.put, List.getElem_toArray, List.getElem_cons_zero, List.getElem_cons_succ, List.setIfInBounds_toArray, List.set_cons_zero, List.set_cons_succ]
    refine wpAnyH_take (i := 15) (v := undef) rfl (by kernel_rfl) (by kernel_rfl) (by kernel_rfl) (fun _ _ _ h => h) (Or.inr ⟨by rfl, rfl⟩) hHeld ?_
    try simp only [Act.put, List.getElem_toArray, List.getElem_cons_zero, List.getElem_cons_succ, List.setIfInBounds_toArray, List.set_cons_zero, List.set_cons_succ]
    refine wpAnyH_take (i := 16) (v := undef) rfl (by kernel_rfl) (by kernel_rfl) (by kernel_rfl) (fun _ _ _ h => h) (Or.inr ⟨by rfl, rfl⟩) hHeld ?_
    try simp only [Act.put, List.getElem_toArray, List.getElem_cons_zero, List.getElem_cons_succ, List.setIfInBounds_toArray, List.set_cons_zero, List.set_cons_succ]
    refine wpAnyH_take (i := 17) (v := (.bool false)) rfl (by kernel_rfl) (by kernel_rfl) (by kernel_rfl) (fun _ _ _ h => h) (Or.inl ⟨by rfl, ?_⟩) hHeld ?_
    · intro w hSw
      obtain ⟨s1, s2, s3, s4, s5, -⟩ := hSw
      go_simp
    try simp only [Act.put, List.getElem_toArray, List.getElem_cons_zero, List.getElem_cons_succ, List.setIfInBounds_toArray, List.set_cons_zero, List.set_cons_succ]
    refine wpAnyH_ready (rs := [18]) (by kernel_rfl) (by simp) (AllReadyH.cons rfl (fun K hK => ?_) AllReadyH.nil)
    have st2 := hHeld.2.2.2.1
    have E := Lib.hid hHeld.pw.end_
    go_simp
    clear st2
    refine hK.out _ _ ((hHeld.pw.row2 _ rfl).said) (fun hHeld => ?_)
    clear hK K
    try simp only [Act.put, List.getElem_toArray, List.getElem_cons_zero, List.getElem_cons_succ, List.setIfInBounds_toArray, List.set_cons_zero, List.set_cons_succ]
    refine wpAnyH_ready (rs := [19]) (by kernel_rfl) (by simp) (AllReadyH.cons rfl (fun K hK => ?_) AllReadyH.nil)
    have st3 := hHeld.2.2.2.2.1
    go_simp
    clear st3
    refine hK.out _ _ ((hHeld.pw.row3 _ (mcells_size _ hms)).said) (fun hHeld => ?_)
    clear hK K
    try simp only [Act.put, List.getElem_toArray, List.getElem_cons_zero, List.getElem_cons_succ, List.setIfInBounds_toArray, List.set_cons_zero, List.set_cons_succ]
    refine wpAnyH_take (i := 20) (v := (.bool false)) rfl (by kernel_rfl) (by kernel_rfl) (by kernel_rfl) (fun _ _ _ h => h) (Or.inl ⟨by rfl, ?_⟩) hHeld ?_
    · intro w hSw
      obtain ⟨s1, s2, s3, s4, s5, -⟩ := hSw
      go_simp
    try simp only [Act.put, List.getElem_toArray, List.getElem_cons_zero, List.getElem_cons_succ, List.setIfInBounds_toArray, List.set_cons_zero, List.set_cons_succ]
    refine wpAnyH_done (by kernel_rfl) ?_ _
    go_wp2_with fail
    obtain ⟨e2, e3⟩ := E.out
    refine bodyPost_ret (v := .tuple #[FV (Mt.fF s), .agg (mcells (Mt.fM s)), (.bool false)]) (results_row_row_tmp rfl _ _ b2 b3 _ _ _ _ _ _ _ rfl rfl rfl e2 e3 Tryd.underlying23 rfl size_frame Tryd.underlying31 rfl (by rw [mcells_size _ hms]; exact size_meta)) rfl ⟨by rw [Hg.out], hHeld.pw.chg⟩
  · have hF : Mt.mayF (Mt.fF s) = true := (ok_iff.1 hok).1
    have Hc := Lib.hid (chk_yes (f := Mt.fF s) (m := Mt.fM s) hok)
    have Hg := Lib.hid (show Mt.good s = (Mt.rec (Mt.fF s) (Mt.fM s) == s) by unfold Mt.good; rw [hok, Bool.true_and, Bool.eq_iff_iff]; simp)
    obtain ⟨R, hR⟩ : ∃ R, R = Mt.rec (Mt.fF s) (Mt.fM s) := ⟨_, rfl⟩
    have Hrec := Lib.hid (fun w => record_calls (Mt.fF s) (Mt.fM s) w Hmo.out hF)
    rw [← hR] at Hrec Hg
    clear hok hF hR
    cases hRs : (R == s)
    · have Hg := Lib.hid (Hg.out.trans hRs)
      refine wp_region_held_drew (S := (fun w' => PSays w b2 b3 b5 b6 g ⟨s, 76, 0⟩ (Mt.fF s) (Mt.fM s) w')) (by kernel_rfl) (Q.quiet ((Chg.refl _ wz).drew)).said (fun hHeld => ?_)
      refine wpAnyH_take (i := 0) (v := (.agg #[.int .i64 (Mt.fF s).page, .int .i64 (Mt.fF s).width])) rfl (by kernel_rfl) (by kernel_rfl) (by kernel_rfl) (fun _ _ _ h => h) (Or.inl ⟨by rfl, ?_⟩) hHeld ?_
      · intro w hSw
        obtain ⟨s1, s2, s3, s4, s5, -⟩ := hSw
        go_simp
      try simp only [Act.put, List.getElem_toArray, List.getElem_cons_zero, List.getElem_cons_succ, List.setIfInBounds_toArray, List.set_cons_zero, List.set_cons_succ]
      refine wpAnyH_take (i := 1) (v := (.agg (mcells (Mt.fM s)))) rfl (by kernel_rfl) (by kernel_rfl) (by kernel_rfl) (fun _ _ _ h => h) (Or.inl ⟨by rfl, ?_⟩) hHeld ?_
      · intro w hSw
        obtain ⟨s1, s2, s3, s4, s5, -⟩ := hSw
        go_simp
      try simp only [Act.put, List.getElem_toArray, List.getElem_cons_zero, List.getElem_cons_succ, List.setIfInBounds_toArray, List.set_cons_zero, List.set_cons_succ]
      refine wpAnyH_take (i := 2) (v := (.pointer (some ⟨g, 0, none⟩))) rfl (by kernel_rfl) (by kernel_rfl) (by kernel_rfl) (fun _ _ _ h => h) (Or.inl ⟨by rfl, ?_⟩) hHeld ?_
      · intro w hSw
        obtain ⟨s1, s2, s3, s4, s5, -⟩ := hSw
        go_simp
      try simp only [Act.put, List.getElem_toArray, List.getElem_cons_zero, List.getElem_cons_succ, List.setIfInBounds_toArray, List.set_cons_zero, List.set_cons_succ]
      refine wpAnyH_ready (rs := [3]) (by kernel_rfl) (by simp) (AllReadyH.cons rfl (fun K hK => ?_) AllReadyH.nil)
      go_simp
      refine (fault_no g _ _ hHeld.pw.kr rfl).mono ?_; rintro e w' ⟨rfl, rfl⟩
      refine hK.out _ _ (hHeld) (fun hHeld => ?_)
      clear hK K
      try simp only [Act.put, List.getElem_toArray, List.getElem_cons_zero, List.getElem_cons_succ, List.setIfInBounds_toArray, List.set_cons_zero, List.set_cons_succ]
      refine wpAnyH_take (i := 4) (v := (.bool true)) rfl (by kernel_rfl) (by kernel_rfl) (by kernel_rfl) (fun _ _ _ h => h) (Or.inl ⟨by rfl, ?_⟩) hHeld ?_
      · intro w hSw
        obtain ⟨s1, s2, s3, s4, s5, -⟩ := hSw
        go_simp
      try simp only [Act.put, List.getElem_toArray, List.getElem_cons_zero, List.getElem_cons_succ, List.setIfInBounds_toArray, List.set_cons_zero, List.set_cons_succ]
      refine wpAnyH_take (i := 5) (v := (.bool true)) rfl (by kernel_rfl) (by kernel_rfl) (by kernel_rfl) (fun _ _ _ h => h) (Or.inl ⟨by rfl, ?_⟩) hHeld ?_
      · intro w hSw
        obtain ⟨s1, s2, s3, s4, s5, -⟩ := hSw
        go_simp
      try simp only [Act.put, List.getElem_toArray, List.getElem_cons_zero, List.getElem_cons_succ, List.setIfInBounds_toArray, List.set_cons_zero, List.set_cons_succ]
      refine wpAnyH_take (i := 6) (v := (.agg #[.int .i64 (Mt.fF s).page, .int .i64 (Mt.fF s).width])) rfl (by kernel_rfl) (by kernel_rfl) (by kernel_rfl) (fun _ _ _ h => h) (Or.inl ⟨by rfl, ?_⟩) hHeld ?_
      · intro w hSw
        obtain ⟨s1, s2, s3, s4, s5, -⟩ := hSw
        go_simp
      try simp only [Act.put, List.getElem_toArray, List.getElem_cons_zero, List.getElem_cons_succ, List.setIfInBounds_toArray, List.set_cons_zero, List.set_cons_succ]
      refine wpAnyH_take (i := 7) (v := (.agg (mcells (Mt.fM s)))) rfl (by kernel_rfl) (by kernel_rfl) (by kernel_rfl) (fun _ _ _ h => h) (Or.inl ⟨by rfl, ?_⟩) hHeld ?_
      · intro w hSw
        obtain ⟨s1, s2, s3, s4, s5, -⟩ := hSw
        go_simp
      try simp only [Act.put, List.getElem_toArray, List.getElem_cons_zero, List.getElem_cons_succ, List.setIfInBounds_toArray, List.set_cons_zero, List.set_cons_succ]
      refine wpAnyH_ready (rs := [8]) (by kernel_rfl) (by simp) (AllReadyH.cons rfl (fun K hK => ?_) AllReadyH.nil)
      go_simp
      refine (check_calls (Mt.fF s) (Mt.fM s) _ Hmo.out).mono ?_; rintro e w' ⟨rfl, hc⟩; rw [Hc.out]
      refine hK.out _ _ ((hHeld.pw.quiet hc).said) (fun hHeld => ?_)
      clear hK K
      try simp only [Act.put, List.getElem_toArray, List.getElem_cons_zero, List.getElem_cons_succ, List.setIfInBounds_toArray, List.set_cons_zero, List.set_cons_succ]
      refine wpAnyH_take (i := 9) (v := (.bool true)) rfl (by kernel_rfl) (by kernel_rfl) (by kernel_rfl) (fun _ _ _ h => h) (Or.inl ⟨by rfl, ?_⟩) hHeld ?_
      · intro w hSw
        obtain ⟨s1, s2, s3, s4, s5, -⟩ := hSw
        go_simp
      try simp only [Act.put, List.getElem_toArray, List.getElem_cons_zero, List.getElem_cons_succ, List.setIfInBounds_toArray, List.set_cons_zero, List.set_cons_succ]
      refine wpAnyH_take (i := 10) (v := (.bool true)) rfl (by kernel_rfl) (by kernel_rfl) (by kernel_rfl) (fun _ _ _ h => h) (Or.inl ⟨by rfl, ?_⟩) hHeld ?_
      · intro w hSw
        obtain ⟨s1, s2, s3, s4, s5, -⟩ := hSw
        go_simp
      try simp only [Act.put, List.getElem_toArray, List.getElem_cons_zero, List.getElem_cons_succ, List.setIfInBounds_toArray, List.set_cons_zero, List.set_cons_succ]
      refine wpAnyH_take (i := 11) (v := (.bool true)) rfl (by kernel_rfl) (by kernel_rfl) (by kernel_rfl) (fun _ _ _ h => h) (Or.inl ⟨by rfl, ?_⟩) hHeld ?_
      · intro w hSw
        obtain ⟨s1, s2, s3, s4, s5, -⟩ := hSw
        go_simp
      try simp only [Act.put, List.getElem_toArray, List.getElem_cons_zero, List.getElem_cons_succ, List.setIfInBounds_toArray, List.set_cons_zero, List.set_cons_succ]
      refine wpAnyH_take (i := 12) (v := (.agg #[.int .i64 (Mt.fF s).page, .int .i64 (Mt.fF s).width])) rfl (by kernel_rfl) (by kernel_rfl) (by kernel_rfl) (fun _ _ _ h => h) (Or.inl ⟨by rfl, ?_⟩) hHeld ?_
      · intro w hSw
        obtain ⟨s1, s2, s3, s4, s5, -⟩ := hSw
        go_simp
      try simp only [Act.put, List.getElem_toArray, List.getElem_cons_zero, List.getElem_cons_succ, List.setIfInBounds_toArray, List.set_cons_zero, List.set_cons_succ]
      refine wpAnyH_take (i := 13) (v := (.agg (mcells (Mt.fM s)))) rfl (by kernel_rfl) (by kernel_rfl) (by kernel_rfl) (fun _ _ _ h => h) (Or.inl ⟨by rfl, ?_⟩) hHeld ?_
      · intro w hSw
        obtain ⟨s1, s2, s3, s4, s5, -⟩ := hSw
        go_simp
      try simp only [Act.put, List.getElem_toArray, List.getElem_cons_zero, List.getElem_cons_succ, List.setIfInBounds_toArray, List.set_cons_zero, List.set_cons_succ]
      refine wpAnyH_take (i := 15) (v := (S s)) rfl (by kernel_rfl) (by kernel_rfl) (by kernel_rfl) (fun _ _ _ h => h) (Or.inl ⟨by rfl, ?_⟩) hHeld ?_
      · intro w hSw
        obtain ⟨s1, s2, s3, s4, s5, -⟩ := hSw
        go_simp
      try simp only [Act.put, List.getElem_toArray, List.getElem_cons_zero, List.getElem_cons_succ, List.setIfInBounds_toArray, List.set_cons_zero, List.set_cons_succ]
      refine wpAnyH_ready (rs := [14]) (by kernel_rfl) (by simp) (AllReadyH.cons rfl (fun K hK => ?_) AllReadyH.nil)
      go_simp
      refine (Hrec.out _).mono ?_; rintro e w' ⟨rfl, hc⟩
      refine hK.out _ _ ((hHeld.pw.quiet hc).said) (fun hHeld => ?_)
      clear hK K
      try simp only [Act.put, List.getElem_toArray, List.getElem_cons_zero, List.getElem_cons_succ, List.setIfInBounds_toArray, List.set_cons_zero, List.set_cons_succ]
      refine wpAnyH_take (i := 16) (v := (.bool false)) rfl (by kernel_rfl) (by kernel_rfl) (by kernel_rfl) (fun _ _ _ h => h) (Or.inl ⟨by rfl, ?_⟩) hHeld ?_
      · intro w hSw
        obtain ⟨s1, s2, s3, s4, s5, -⟩ := hSw
        go_simp
      try simp only [Act.put, List.getElem_toArray, List.getElem_cons_zero, List.getElem_cons_succ, List.setIfInBounds_toArray, List.set_cons_zero, List.set_cons_succ]
      refine wpAnyH_take (i := 17) (v := (.bool false)) rfl (by kernel_rfl) (by kernel_rfl) (by kernel_rfl) (fun _ _ _ h => h) (Or.inl ⟨by rfl, ?_⟩) hHeld ?_
      · intro w hSw
        obtain ⟨s1, s2, s3, s4, s5, -⟩ := hSw
        go_simp
      try simp only [Act.put, List.getElem_toArray, List.getElem_cons_zero, List.getElem_cons_succ, List.setIfInBounds_toArray, List.set_cons_zero, List.set_cons_succ]
      refine wpAnyH_ready (rs := [18]) (by kernel_rfl) (by simp) (AllReadyH.cons rfl (fun K hK => ?_) AllReadyH.nil)
      have st2 := hHeld.2.2.2.1
      have E := Lib.hid hHeld.pw.end_
      go_simp
      clear st2
      refine hK.out _ _ ((hHeld.pw.row2 _ rfl).said) (fun hHeld => ?_)
      clear hK K
      try simp only [Act.put, List.getElem_toArray, List.getElem_cons_zero, List.getElem_cons_succ, List.setIfInBounds_toArray, List.set_cons_zero, List.set_cons_succ]
      refine wpAnyH_ready (rs := [19]) (by kernel_rfl) (by simp) (AllReadyH.cons rfl (fun K hK => ?_) AllReadyH.nil)
      have st3 := hHeld.2.2.2.2.1
      go_simp
      clear st3
      refine hK.out _ _ ((hHeld.pw.row3 _ (mcells_size _ hms)).said) (fun hHeld => ?_)
      clear hK K
      try simp only [Act.put, List.getElem_toArray, List.getElem_cons_zero, List.getElem_cons_succ, List.setIfInBounds_toArray, List.set_cons_zero, List.set_cons_succ]
      refine wpAnyH_take (i := 20) (v := (.bool false)) rfl (by kernel_rfl) (by kernel_rfl) (by kernel_rfl) (fun _ _ _ h => h) (Or.inl ⟨by rfl, ?_⟩) hHeld ?_
      · intro w hSw
        obtain ⟨s1, s2, s3, s4, s5, -⟩ := hSw
        go_simp
      try simp only [Act.put, List.getElem_toArray, List.getElem_cons_zero, List.getElem_cons_succ, List.setIfInBounds_toArray, List.set_cons_zero, List.set_cons_succ]
      refine wpAnyH_done (by kernel_rfl) ?_ _
      go_wp2_with fail
      obtain ⟨e2, e3⟩ := E.out
      refine bodyPost_ret (v := .tuple #[FV (Mt.fF s), .agg (mcells (Mt.fM s)), (.bool false)]) (results_row_row_tmp rfl _ _ b2 b3 _ _ _ _ _ _ _ rfl rfl rfl e2 e3 Tryd.underlying23 rfl size_frame Tryd.underlying31 rfl (by rw [mcells_size _ hms]; exact size_meta)) rfl ⟨by rw [Hg.out], hHeld.pw.chg⟩
    · have Hg := Lib.hid (Hg.out.trans hRs)
      refine wp_region_held_drew (S := (fun w' => PSays w b2 b3 b5 b6 g ⟨s, 76, 0⟩ (Mt.fF s) (Mt.fM s) w')) (by kernel_rfl) (Q.quiet ((Chg.refl _ wz).drew)).said (fun hHeld => ?_)
      refine wpAnyH_take (i := 0) (v := (.agg #[.int .i64 (Mt.fF s).page, .int .i64 (Mt.fF s).width])) rfl (by kernel_rfl) (by kernel_rfl) (by kernel_rfl) (fun _ _ _ h => h) (Or.inl ⟨by rfl, ?_⟩) hHeld ?_
      · intro w hSw
        obtain ⟨s1, s2, s3, s4, s5, -⟩ := hSw
        go_simp
      try simp only [Act.put, List.getElem_toArray, List.getElem_cons_zero, List.getElem_cons_succ, List.setIfInBounds_toArray, List.set_cons_zero, List.set_cons_succ]
      refine wpAnyH_take (i := 1) (v := (.agg (mcells (Mt.fM s)))) rfl (by kernel_rfl) (by kernel_rfl) (by kernel_rfl) (fun _ _ _ h => h) (Or.inl ⟨by rfl, ?_⟩) hHeld ?_
      · intro w hSw
        obtain ⟨s1, s2, s3, s4, s5, -⟩ := hSw
        go_simp
      try simp only [Act.put, List.getElem_toArray, List.getElem_cons_zero, List.getElem_cons_succ, List.setIfInBounds_toArray, List.set_cons_zero, List.set_cons_succ]
      refine wpAnyH_take (i := 2) (v := (.pointer (some ⟨g, 0, none⟩))) rfl (by kernel_rfl) (by kernel_rfl) (by kernel_rfl) (fun _ _ _ h => h) (Or.inl ⟨by rfl, ?_⟩) hHeld ?_
      · intro w hSw
        obtain ⟨s1, s2, s3, s4, s5, -⟩ := hSw
        go_simp
      try simp only [Act.put, List.getElem_toArray, List.getElem_cons_zero, List.getElem_cons_succ, List.setIfInBounds_toArray, List.set_cons_zero, List.set_cons_succ]
      refine wpAnyH_ready (rs := [3]) (by kernel_rfl) (by simp) (AllReadyH.cons rfl (fun K hK => ?_) AllReadyH.nil)
      go_simp
      refine (fault_no g _ _ hHeld.pw.kr rfl).mono ?_; rintro e w' ⟨rfl, rfl⟩
      refine hK.out _ _ (hHeld) (fun hHeld => ?_)
      clear hK K
      try simp only [Act.put, List.getElem_toArray, List.getElem_cons_zero, List.getElem_cons_succ, List.setIfInBounds_toArray, List.set_cons_zero, List.set_cons_succ]
      refine wpAnyH_take (i := 4) (v := (.bool true)) rfl (by kernel_rfl) (by kernel_rfl) (by kernel_rfl) (fun _ _ _ h => h) (Or.inl ⟨by rfl, ?_⟩) hHeld ?_
      · intro w hSw
        obtain ⟨s1, s2, s3, s4, s5, -⟩ := hSw
        go_simp
      try simp only [Act.put, List.getElem_toArray, List.getElem_cons_zero, List.getElem_cons_succ, List.setIfInBounds_toArray, List.set_cons_zero, List.set_cons_succ]
      refine wpAnyH_take (i := 5) (v := (.bool true)) rfl (by kernel_rfl) (by kernel_rfl) (by kernel_rfl) (fun _ _ _ h => h) (Or.inl ⟨by rfl, ?_⟩) hHeld ?_
      · intro w hSw
        obtain ⟨s1, s2, s3, s4, s5, -⟩ := hSw
        go_simp
      try simp only [Act.put, List.getElem_toArray, List.getElem_cons_zero, List.getElem_cons_succ, List.setIfInBounds_toArray, List.set_cons_zero, List.set_cons_succ]
      refine wpAnyH_take (i := 6) (v := (.agg #[.int .i64 (Mt.fF s).page, .int .i64 (Mt.fF s).width])) rfl (by kernel_rfl) (by kernel_rfl) (by kernel_rfl) (fun _ _ _ h => h) (Or.inl ⟨by rfl, ?_⟩) hHeld ?_
      · intro w hSw
        obtain ⟨s1, s2, s3, s4, s5, -⟩ := hSw
        go_simp
      try simp only [Act.put, List.getElem_toArray, List.getElem_cons_zero, List.getElem_cons_succ, List.setIfInBounds_toArray, List.set_cons_zero, List.set_cons_succ]
      refine wpAnyH_take (i := 7) (v := (.agg (mcells (Mt.fM s)))) rfl (by kernel_rfl) (by kernel_rfl) (by kernel_rfl) (fun _ _ _ h => h) (Or.inl ⟨by rfl, ?_⟩) hHeld ?_
      · intro w hSw
        obtain ⟨s1, s2, s3, s4, s5, -⟩ := hSw
        go_simp
      try simp only [Act.put, List.getElem_toArray, List.getElem_cons_zero, List.getElem_cons_succ, List.setIfInBounds_toArray, List.set_cons_zero, List.set_cons_succ]
      refine wpAnyH_ready (rs := [8]) (by kernel_rfl) (by simp) (AllReadyH.cons rfl (fun K hK => ?_) AllReadyH.nil)
      go_simp
      refine (check_calls (Mt.fF s) (Mt.fM s) _ Hmo.out).mono ?_; rintro e w' ⟨rfl, hc⟩; rw [Hc.out]
      refine hK.out _ _ ((hHeld.pw.quiet hc).said) (fun hHeld => ?_)
      clear hK K
      try simp only [Act.put, List.getElem_toArray, List.getElem_cons_zero, List.getElem_cons_succ, List.setIfInBounds_toArray, List.set_cons_zero, List.set_cons_succ]
      refine wpAnyH_take (i := 9) (v := (.bool true)) rfl (by kernel_rfl) (by kernel_rfl) (by kernel_rfl) (fun _ _ _ h => h) (Or.inl ⟨by rfl, ?_⟩) hHeld ?_
      · intro w hSw
        obtain ⟨s1, s2, s3, s4, s5, -⟩ := hSw
        go_simp
      try simp only [Act.put, List.getElem_toArray, List.getElem_cons_zero, List.getElem_cons_succ, List.setIfInBounds_toArray, List.set_cons_zero, List.set_cons_succ]
      refine wpAnyH_take (i := 10) (v := (.bool true)) rfl (by kernel_rfl) (by kernel_rfl) (by kernel_rfl) (fun _ _ _ h => h) (Or.inl ⟨by rfl, ?_⟩) hHeld ?_
      · intro w hSw
        obtain ⟨s1, s2, s3, s4, s5, -⟩ := hSw
        go_simp
      try simp only [Act.put, List.getElem_toArray, List.getElem_cons_zero, List.getElem_cons_succ, List.setIfInBounds_toArray, List.set_cons_zero, List.set_cons_succ]
      refine wpAnyH_take (i := 11) (v := (.bool true)) rfl (by kernel_rfl) (by kernel_rfl) (by kernel_rfl) (fun _ _ _ h => h) (Or.inl ⟨by rfl, ?_⟩) hHeld ?_
      · intro w hSw
        obtain ⟨s1, s2, s3, s4, s5, -⟩ := hSw
        go_simp
      try simp only [Act.put, List.getElem_toArray, List.getElem_cons_zero, List.getElem_cons_succ, List.setIfInBounds_toArray, List.set_cons_zero, List.set_cons_succ]
      refine wpAnyH_take (i := 12) (v := (.agg #[.int .i64 (Mt.fF s).page, .int .i64 (Mt.fF s).width])) rfl (by kernel_rfl) (by kernel_rfl) (by kernel_rfl) (fun _ _ _ h => h) (Or.inl ⟨by rfl, ?_⟩) hHeld ?_
      · intro w hSw
        obtain ⟨s1, s2, s3, s4, s5, -⟩ := hSw
        go_simp
      try simp only [Act.put, List.getElem_toArray, List.getElem_cons_zero, List.getElem_cons_succ, List.setIfInBounds_toArray, List.set_cons_zero, List.set_cons_succ]
      refine wpAnyH_take (i := 13) (v := (.agg (mcells (Mt.fM s)))) rfl (by kernel_rfl) (by kernel_rfl) (by kernel_rfl) (fun _ _ _ h => h) (Or.inl ⟨by rfl, ?_⟩) hHeld ?_
      · intro w hSw
        obtain ⟨s1, s2, s3, s4, s5, -⟩ := hSw
        go_simp
      try simp only [Act.put, List.getElem_toArray, List.getElem_cons_zero, List.getElem_cons_succ, List.setIfInBounds_toArray, List.set_cons_zero, List.set_cons_succ]
      refine wpAnyH_take (i := 15) (v := (S s)) rfl (by kernel_rfl) (by kernel_rfl) (by kernel_rfl) (fun _ _ _ h => h) (Or.inl ⟨by rfl, ?_⟩) hHeld ?_
      · intro w hSw
        obtain ⟨s1, s2, s3, s4, s5, -⟩ := hSw
        go_simp
      try simp only [Act.put, List.getElem_toArray, List.getElem_cons_zero, List.getElem_cons_succ, List.setIfInBounds_toArray, List.set_cons_zero, List.set_cons_succ]
      refine wpAnyH_ready (rs := [14]) (by kernel_rfl) (by simp) (AllReadyH.cons rfl (fun K hK => ?_) AllReadyH.nil)
      go_simp
      refine (Hrec.out _).mono ?_; rintro e w' ⟨rfl, hc⟩
      refine hK.out _ _ ((hHeld.pw.quiet hc).said) (fun hHeld => ?_)
      clear hK K
      try simp only [Act.put, List.getElem_toArray, List.getElem_cons_zero, List.getElem_cons_succ, List.setIfInBounds_toArray, List.set_cons_zero, List.set_cons_succ]
      refine wpAnyH_take (i := 16) (v := (.bool true)) rfl (by kernel_rfl) (by kernel_rfl) (by kernel_rfl) (fun _ _ _ h => h) (Or.inl ⟨by rfl, ?_⟩) hHeld ?_
      · intro w hSw
        obtain ⟨s1, s2, s3, s4, s5, -⟩ := hSw
        go_simp
      try simp only [Act.put, List.getElem_toArray, List.getElem_cons_zero, List.getElem_cons_succ, List.setIfInBounds_toArray, List.set_cons_zero, List.set_cons_succ]
      refine wpAnyH_take (i := 17) (v := (.bool true)) rfl (by kernel_rfl) (by kernel_rfl) (by kernel_rfl) (fun _ _ _ h => h) (Or.inl ⟨by rfl, ?_⟩) hHeld ?_
      · intro w hSw
        obtain ⟨s1, s2, s3, s4, s5, -⟩ := hSw
        go_simp
      try simp only [Act.put, List.getElem_toArray, List.getElem_cons_zero, List.getElem_cons_succ, List.setIfInBounds_toArray, List.set_cons_zero, List.set_cons_succ]
      refine wpAnyH_ready (rs := [18]) (by kernel_rfl) (by simp) (AllReadyH.cons rfl (fun K hK => ?_) AllReadyH.nil)
      have st2 := hHeld.2.2.2.1
      have E := Lib.hid hHeld.pw.end_
      go_simp
      clear st2
      refine hK.out _ _ ((hHeld.pw.row2 _ rfl).said) (fun hHeld => ?_)
      clear hK K
      try simp only [Act.put, List.getElem_toArray, List.getElem_cons_zero, List.getElem_cons_succ, List.setIfInBounds_toArray, List.set_cons_zero, List.set_cons_succ]
      refine wpAnyH_ready (rs := [19]) (by kernel_rfl) (by simp) (AllReadyH.cons rfl (fun K hK => ?_) AllReadyH.nil)
      have st3 := hHeld.2.2.2.2.1
      go_simp
      clear st3
      refine hK.out _ _ ((hHeld.pw.row3 _ (mcells_size _ hms)).said) (fun hHeld => ?_)
      clear hK K
      try simp only [Act.put, List.getElem_toArray, List.getElem_cons_zero, List.getElem_cons_succ, List.setIfInBounds_toArray, List.set_cons_zero, List.set_cons_succ]
      refine wpAnyH_take (i := 20) (v := (.bool true)) rfl (by kernel_rfl) (by kernel_rfl) (by kernel_rfl) (fun _ _ _ h => h) (Or.inl ⟨by rfl, ?_⟩) hHeld ?_
      · intro w hSw
        obtain ⟨s1, s2, s3, s4, s5, -⟩ := hSw
        go_simp
      try simp only [Act.put, List.getElem_toArray, List.getElem_cons_zero, List.getElem_cons_succ, List.setIfInBounds_toArray, List.set_cons_zero, List.set_cons_succ]
      refine wpAnyH_done (by kernel_rfl) ?_ _
      go_wp2_with fail
      obtain ⟨e2, e3⟩ := E.out
      refine bodyPost_ret (v := .tuple #[FV (Mt.fF s), .agg (mcells (Mt.fM s)), (.bool true)]) (results_row_row_tmp rfl _ _ b2 b3 _ _ _ _ _ _ _ rfl rfl rfl e2 e3 Tryd.underlying23 rfl size_frame Tryd.underlying31 rfl (by rw [mcells_size _ hms]; exact size_meta)) rfl ⟨by rw [Hg.out], hHeld.pw.chg⟩
end Go.Proofs.YtlhdbkbgedlmnaaDoor
