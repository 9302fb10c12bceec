/-
  Layer 6: the document's Slot, Decode and Pick.
-/
import Derived.Test.YtlhdbkbgedlmnaaDoorMfld2
import Derived.Test.YtlhdbkbgedlmnaaDoorMpick
import Derived.Test.YtlhdbkbgedlmnaaDoorMref
namespace Go.Proofs.YtlhdbkbgedlmnaaDoor
open Go.RowKit
set_option linter.unusedVariables false
set_option linter.unusedSimpArgs false
attribute [local go_sem ↓] ldM_eq stF_eq stM_eq

theorem fld_take {t : List UInt8} {p n k : Nat} (h : p + n ≤ k) : Mt.fld (t.take k) p n = Mt.fld t p n := by
  unfold Mt.fld
  rw [List.drop_take, List.take_take, show min n (k - p) = n by omega]
theorem fM_take {t : List UInt8} : Mt.fM (t.take 80) = Mt.fM t := by
  unfold Mt.fM
  rw [fld_take (by omega), fld_take (by omega), fld_take (by omega), fld_take (by omega), fld_take (by omega), fld_take (by omega), List.drop_take, List.take_take]
  rfl
theorem fF_take {t : List UInt8} : Mt.fF (t.take 80) = Mt.fF t := by
  unfold Mt.fF
  rw [fld_take (by omega), fld_take (by omega)]
/-- the byte of a record that tells its page's length -/
theorem rec_lg {p : Int} {wd : Int} {m : Mt.M} : Mt.fld (Mt.rec ⟨p, wd⟩ m) 4 1 = Mt.lg p := by
  unfold Mt.rec Mt.body
  simp only [List.append_assoc]
  exact Mt.fld_at (by simp [Pk.be_length]) rfl (by unfold Mt.lg; split; decide; split; decide; split; decide; decide)
theorem pow_lg {p : Int} (h : p = 1024 ∨ p = 2048 ∨ p = 4096 ∨ p = 8192) : 10 ≤ Mt.lg p ∧ Mt.lg p ≤ 13 ∧ ((2 ^ Mt.lg p : Nat) : Int) = p := by
  rcases h with rfl | rfl | rfl | rfl <;> exact ⟨by decide, by decide, by decide⟩
/-- the document's test of a sector -/
def Mt.rgood (t : List UInt8) : Bool := Mt.mayF (Mt.rF t) && (Mt.mayM (Mt.rF t) (Mt.fM t) && decide (t = Mt.rec (Mt.rF t) (Mt.fM t) ++ Mt.zs (t.length - 80)))
theorem rF_of {t : List UInt8} {f : Mt.F} {m : Mt.M} (h80 : 80 ≤ t.length) (hf : Mt.mayF f = true) (hm : m.Ok) (h : t.take 80 = Mt.rec f m) : Mt.rF t = f ∧ Mt.fM t = m ∧ Mt.fF t = f := by
  obtain ⟨a, b⟩ := Mt.rec_fields hm hf
  rw [← h] at a b
  rw [fM_take] at b
  refine ⟨?_, b, by rw [fF_take] at a; exact a⟩
  obtain ⟨p, wd⟩ := f
  obtain ⟨hp, -, -⟩ := Mt.mayF_iff.1 hf
  obtain ⟨l1, l2, l3⟩ := pow_lg hp
  have e4 : Mt.fld t 4 1 = Mt.lg p := by rw [← fld_take (k := 80) (by omega), h]; exact rec_lg
  have e5 : ((Mt.fld t 5 1 : Nat) : Int) = wd := by
    rw [fF_take] at a
    unfold Mt.fF at a
    injection a
  unfold Mt.rF
  rw [e4, if_pos ⟨l1, l2⟩, l3, e5]
theorem rgood_iff {t : List UInt8} (h80 : 80 ≤ t.length) : Mt.rgood t = true ↔ (Mt.good (t.take 80) = true ∧ t.drop 80 = Mt.zs (t.length - 80)) := by
  have hl : (t.take 80).length = 80 := by rw [List.length_take]; omega
  unfold Mt.rgood Mt.good
  simp only [Bool.and_eq_true, decide_eq_true_iff]
  constructor
  · rintro ⟨h1, h2, h3⟩
    have hm := Mt.fM_ok (s := t) (by omega)
    have hr := Mt.rec_length (Mt.rF t) (Mt.fM t) hm.sum
    have ht : t.take 80 = Mt.rec (Mt.rF t) (Mt.fM t) := by
      have := congrArg (List.take 80) h3
      rw [← hr, List.take_left] at this
      rw [hr] at this
      exact this
    have hd : t.drop 80 = Mt.zs (t.length - 80) := by
      have := congrArg (List.drop 80) h3
      rw [← hr, List.drop_left] at this
      rw [hr] at this
      exact this
    obtain ⟨a, b, c⟩ := rF_of h80 h1 hm ht
    refine ⟨⟨?_, ?_⟩, hd⟩
    · rw [fM_take, fF_take, c]; unfold Mt.ok; rw [h1, h2]; rfl
    · rw [fM_take, fF_take, c]; exact ht.symm
  · rintro ⟨⟨h1, h2⟩, h3⟩
    have h1' := h1
    unfold Mt.ok at h1'
    simp only [Bool.and_eq_true] at h1'
    obtain ⟨hf, hm⟩ := h1'
    have hk := Mt.fM_ok (s := t.take 80) (by omega)
    obtain ⟨a, b, c⟩ := rF_of h80 hf hk h2.symm
    rw [a, b]
    refine ⟨hf, hm, ?_⟩
    rw [h2, ← h3, List.take_append_drop]
theorem rgood_fF {t : List UInt8} (h80 : 80 ≤ t.length) (h : Mt.rgood t = true) : Mt.fF (t.take 80) = Mt.rF t ∧ Mt.fM (t.take 80) = Mt.fM t := by
  obtain ⟨h1, h3⟩ := (rgood_iff h80).1 h
  have h1' := h1
  unfold Mt.good at h1'
  simp only [Bool.and_eq_true, decide_eq_true_iff] at h1'
  obtain ⟨h1', h2⟩ := h1'
  unfold Mt.ok at h1'
  simp only [Bool.and_eq_true] at h1'
  obtain ⟨a, b, c⟩ := rF_of h80 h1'.1 (Mt.fM_ok (s := t.take 80) (by rw [List.length_take]; omega)) h2.symm
  exact ⟨a.symm, b.symm⟩
theorem rkind_3 {f : Mt.F} {t : List UInt8} (h80 : 80 ≤ t.length) (h : (t == Mt.zs t.length) = false) (h2 : Mt.rgood t = false) : Mt.kind f t = 3 ∧ Mt.told f t = Mt.zero := by
  have : Mt.kind f t = 3 := by
    unfold Mt.kind; rw [if_neg (by simpa using h), if_pos ?_]
    rw [← rgood_iff h80, h2]; simp
  exact ⟨this, by unfold Mt.told; rw [if_neg (by omega)]⟩
theorem rkind_0 {f : Mt.F} {t : List UInt8} (h : (t == Mt.zs t.length) = true) : Mt.kind f t = 0 ∧ Mt.told f t = Mt.zero := kind_0 (by simpa using h)
theorem rkind_2 {f : Mt.F} {t : List UInt8} (h80 : 80 ≤ t.length) (h : (t == Mt.zs t.length) = false) (h1 : Mt.rgood t = true) (h3 : Mt.rF t ≠ f) : Mt.kind f t = 2 ∧ Mt.told f t = Mt.zero := by
  have : Mt.kind f t = 2 := by
    unfold Mt.kind; rw [if_neg (by simpa using h), if_neg ?_, if_pos (by rw [(rgood_fF h80 h1).1]; exact h3)]
    exact fun n => n ((rgood_iff h80).1 h1)
  exact ⟨this, by unfold Mt.told; rw [if_neg (by omega)]⟩
theorem rkind_1 {f : Mt.F} {t : List UInt8} (h80 : 80 ≤ t.length) (h : (t == Mt.zs t.length) = false) (h1 : Mt.rgood t = true) (h3 : Mt.rF t = f) : Mt.kind f t = 1 ∧ Mt.told f t = Mt.fM t := by
  have : Mt.kind f t = 1 := by
    unfold Mt.kind; rw [if_neg (by simpa using h), if_neg ?_, if_neg (by rw [(rgood_fF h80 h1).1]; simpa using h3)]
    exact fun n => n ((rgood_iff h80).1 h1)
  exact ⟨this, by unfold Mt.told; rw [if_pos this, (rgood_fF h80 h1).2]⟩
theorem ret_slot {m m' : Mt.M} {k k' : Int} (h1 : m = m') (h2 : k = k') : Ending.returned (.tuple #[.agg (mcells m), .int .i64 k]) = .returned (.tuple #[.agg (mcells m'), .int .i64 k']) := by rw [h1, h2]

set_option maxHeartbeats 8000000 in
set_option maxRecDepth 100000 in
theorem slot_calls (f : Mt.F) (s : List UInt8) (w : World) (h : Mt.fit f s = true) :
    Calls Tryd.prog 31 #[FV f, S s] w fun e w' => e = .returned (.tuple #[.agg (mcells (Mt.told f (Mt.sect f s))), .int .i64 (Mt.kind f (Mt.sect f s))]) ∧ Chg (fun _ => False) w w' := by
  obtain ⟨q, hq1, hq2, hq3, hq4, hq5, hq6⟩ := fit_sect h
  have p0 : 0 ≤ f.page := by omega
  have p1 : f.page ≤ 8192 := by omega
  have hsl := fun w => run_slice_to (P := Tryd.prog) 9 Tryd.underlying9 s q (f.page / 8) (by omega) (by omega) w
  rw [hq5] at hq6 ⊢
  clear hq1 hq4 hq5 h
  obtain ⟨t, ht⟩ : ∃ t, t = s.take q := ⟨_, rfl⟩
  rw [← ht] at hq6 hsl ⊢
  clear ht
  have h80 : 80 ≤ t.length := by omega
  have hz8 : t.length ≤ 8192 := by omega
  clear hq6 hq2 hq3
  have Hok := Lib.hid (Mt.fM_ok (s := t) (by omega))
  obtain ⟨gp, gn, hG⟩ : ∃ (gp : Int) (gn : Nat), Mt.rF t = ⟨gp, (gn : Int)⟩ := ⟨_, _, rfl⟩
  have hfc := fun w => fields_calls t w h80 (by omega)
  rw [hG] at hfc
  try dsimp only at hfc
  have HFc := Lib.hid hfc
  clear hfc
  have HG := Lib.hid hG
  have H80 := Lib.hid h80
  clear hG
  obtain ⟨z, hz⟩ : ∃ z : Nat, (t.length : Int) - 80 = (z : Int) := ⟨t.length - 80, by omega⟩
  have Hz := Lib.hid hz
  have hzw : IntKind.i64.wrap ((t.length : Int) - 80) = (z : Int) := by rw [hz]; exact IntWalk.i64_in _ (by omega)
  have hzl : z ≤ 8192 := by omega
  obtain ⟨R, hR⟩ : ∃ R, R = Mt.rec ⟨gp, (gn : Int)⟩ (Mt.fM t) := ⟨_, rfl⟩
  have hRl : R.length = 80 := by rw [hR]; exact Mt.rec_length _ _ Hok.out.sum
  have hadd := fun w => addS R (Mt.zs z) (by simp [Mt.zs]; omega) w
  have HR := Lib.hid hR
  clear hR hRl
  go_enter Tryd.func31, Tryd.ntmps31
  go_wp2_with fail
  refine (noughts_calls t.length _ (by omega)).mono ?_
  rintro e w1 ⟨rfl, hc⟩
  have D := Dc.new hc
  clear hc hsl hz
  cases hb : t == Mt.zs t.length
  · have Hb := Lib.hid hb
    go_wp2_with fail
    refine (HFc.out _).mono ?_
    rintro e w2 ⟨rfl, hc⟩
    have D2 := D.quiet hc
    clear hc D
    obtain ⟨wy, wz, st1, st2, D5, kF, kM⟩ := D2.pair ⟨gp, (gn : Int)⟩ (Mt.fM t) Hok.out.sum
    dsimp only at st1 st2 kF
    clear D2 hb
    have g0 : wz.cell? ⟨w2.heap.size, 0, none⟩ = some (.int .i64 gp) := by rw [kF.cell]; rfl
    have g1 : wz.cell? ⟨w2.heap.size, 1, none⟩ = some (.int .i64 (gn : Int)) := by rw [kF.cell]; rfl
    go_wp2_with fail
    refine (mayframe_calls gp (gn : Int) _).mono ?_
    rintro e w3 ⟨rfl, hc⟩
    have D6 := D5.quiet hc
    have kF := kF.chg hc (fun h => h)
    have kM := kM.chg hc (fun h => h)
    clear hc D5 g0 g1 st1 st2
    have g0 : w3.cell? ⟨w2.heap.size, 0, none⟩ = some (.int .i64 gp) := by rw [kF.cell]; rfl
    have g1 : w3.cell? ⟨w2.heap.size, 1, none⟩ = some (.int .i64 (gn : Int)) := by rw [kF.cell]; rfl
    cases hmf : Mt.mayF ⟨gp, (gn : Int)⟩
    · have Hk := Lib.hid (rkind_3 (f := f) H80.out Hb.out (by unfold Mt.rgood; rw [HG.out, hmf]; rfl))
      clear hmf
      have st := D6.st0
      go_wp2_with fail
      have D7 := D6.set_ Mt.zero
      refine bodyPost_ret (v := .tuple #[.agg (mcells Mt.zero), .int .i64 3]) (results_row_tmp rfl _ _ (w.heap.size + 1) _ _ _ _ _ rfl rfl D7.m Tryd.underlying31 rfl (by rw [mcells_size _ rfl]; exact size_meta)) rfl ⟨?_, D7.chg⟩
      exact ret_slot Hk.out.2.symm (by rw [Hk.out.1]; rfl)
    · have Hmf := Lib.hid hmf
      have hgn := (Mt.mayF_iff.1 hmf).2
      dsimp only at hgn
      obtain ⟨hg1, hg2⟩ := hgn
      have hg1' : 1 ≤ gn := by omega
      have hg2' : gn ≤ 32 := by omega
      clear hmf hg1 hg2
      have lm := ldM_of kM Hok.out.sum
      go_wp2_with fail
      refine (may_calls gp gn (Mt.fM t) _ Hok.out hg1' hg2').mono ?_
      rintro e w4 ⟨rfl, hc⟩
      have D7 := D6.quiet hc
      have kF := kF.chg hc (fun h => h)
      have kM := kM.chg hc (fun h => h)
      clear hc D6 g0 g1 lm
      have g0 : w4.cell? ⟨w2.heap.size, 0, none⟩ = some (.int .i64 gp) := by rw [kF.cell]; rfl
      have g1 : w4.cell? ⟨w2.heap.size, 1, none⟩ = some (.int .i64 (gn : Int)) := by rw [kF.cell]; rfl
      have lm := ldM_of kM Hok.out.sum
      cases hmm : Mt.mayM ⟨gp, (gn : Int)⟩ (Mt.fM t)
      · have Hk := Lib.hid (rkind_3 (f := f) H80.out Hb.out (by unfold Mt.rgood; rw [HG.out, Hmf.out, hmm]; rfl))
        clear hmm
        have st := D7.st0
        go_wp2_with fail
        have D8 := D7.set_ Mt.zero
        refine bodyPost_ret (v := .tuple #[.agg (mcells Mt.zero), .int .i64 3]) (results_row_tmp rfl _ _ (w.heap.size + 1) _ _ _ _ _ rfl rfl D8.m Tryd.underlying31 rfl (by rw [mcells_size _ rfl]; exact size_meta)) rfl ⟨?_, D8.chg⟩
        exact ret_slot Hk.out.2.symm (by rw [Hk.out.1]; rfl)
      · have Hmm := Lib.hid hmm
        clear hmm
        go_wp2_with fail
        refine (bytes_calls ⟨gp, (gn : Int)⟩ (Mt.fM t) _ Hok.out Hmf.out).mono ?_
        rintro e w5 ⟨rfl, hc⟩
        rw [← HR.out]
        have D8 := D7.quiet hc
        have kF := kF.chg hc (fun h => h)
        have kM := kM.chg hc (fun h => h)
        clear hc D7 g0 g1 lm
        go_wp2_with fail
        refine (noughts_calls z _ (by omega)).mono ?_
        rintro e w6 ⟨rfl, hc⟩
        have D9 := D8.quiet hc
        have kF := kF.chg hc (fun h => h)
        have kM := kM.chg hc (fun h => h)
        clear hc D8
        have g0 : w6.cell? ⟨w2.heap.size, 0, none⟩ = some (.int .i64 gp) := by rw [kF.cell]; rfl
        have g1 : w6.cell? ⟨w2.heap.size, 1, none⟩ = some (.int .i64 (gn : Int)) := by rw [kF.cell]; rfl
        have lm := ldM_of kM Hok.out.sum
        have f0 := D9.f0
        have f1 := D9.f1
        have hgr : ∀ b, (t == R ++ Mt.zs z) = b → Mt.rgood t = b := by
          intro b hb
          unfold Mt.rgood
          rw [HG.out, Hmf.out, Hmm.out, ← HR.out, show t.length - 80 = z by have := Hz.out; omega, ← hb]
          rw [Bool.true_and, Bool.true_and, Bool.eq_iff_iff]; simp
        cases hbr : t == R ++ Mt.zs z
        · have Hk := Lib.hid (rkind_3 (f := f) H80.out Hb.out (hgr _ hbr))
          clear hgr
          have st := D9.st0
          go_wp2_with fail
          have D8 := D9.set_ Mt.zero
          refine bodyPost_ret (v := .tuple #[.agg (mcells Mt.zero), .int .i64 3]) (results_row_tmp rfl _ _ (w.heap.size + 1) _ _ _ _ _ rfl rfl D8.m Tryd.underlying31 rfl (by rw [mcells_size _ rfl]; exact size_meta)) rfl ⟨?_, D8.chg⟩
          exact ret_slot Hk.out.2.symm (by rw [Hk.out.1]; rfl)
        · have hne := fun w => neq_frame ⟨gp, (gn : Int)⟩ f w
          try dsimp only at hne
          have hgf := guard_frame
          by_cases hF : (⟨gp, (gn : Int)⟩ : Mt.F) = f
          · have Hk := Lib.hid (rkind_1 (f := f) H80.out Hb.out (hgr _ hbr) (HG.out.trans hF))
            rw [decide_eq_true hF] at hne
            clear hF hgr
            have st := D9.st rfl (Mt.fM t) Hok.out.sum
            go_wp2_with fail
            have D8 := D9.set_ (Mt.fM t)
            refine bodyPost_ret (v := .tuple #[.agg (mcells (Mt.fM t)), .int .i64 1]) (results_row_tmp rfl _ _ (w.heap.size + 1) _ _ _ _ _ rfl rfl D8.m Tryd.underlying31 rfl (by rw [mcells_size _ Hok.out.sum]; exact size_meta)) rfl ⟨?_, D8.chg⟩
            exact ret_slot Hk.out.2.symm (by rw [Hk.out.1]; rfl)
          · have Hk := Lib.hid (rkind_2 (f := f) H80.out Hb.out (hgr _ hbr) (fun a => hF (HG.out.symm.trans a)))
            rw [decide_eq_false hF] at hne
            clear hF hgr
            have st := D9.st0
            go_wp2_with fail
            have D8 := D9.set_ Mt.zero
            refine bodyPost_ret (v := .tuple #[.agg (mcells Mt.zero), .int .i64 2]) (results_row_tmp rfl _ _ (w.heap.size + 1) _ _ _ _ _ rfl rfl D8.m Tryd.underlying31 rfl (by rw [mcells_size _ rfl]; exact size_meta)) rfl ⟨?_, D8.chg⟩
            exact ret_slot Hk.out.2.symm (by rw [Hk.out.1]; rfl)
  · have Hk := Lib.hid (rkind_0 (f := f) hb)
    have st := D.st0
    go_wp2_with fail
    have D8 := D.set_ Mt.zero
    refine bodyPost_ret (v := .tuple #[.agg (mcells Mt.zero), .int .i64 0]) (results_row_tmp rfl _ _ (w.heap.size + 1) _ _ _ _ _ rfl rfl D8.m Tryd.underlying31 rfl (by rw [mcells_size _ rfl]; exact size_meta)) rfl ⟨?_, D8.chg⟩
    exact ret_slot Hk.out.2.symm (by rw [Hk.out.1]; rfl)
end Go.Proofs.YtlhdbkbgedlmnaaDoor
