/-
  Layer 6: the walks of the laws MetaChecks, MetaEncodes, MetaDecodes, MetaPicks, MetaBack, MetaNames.
-/
import Derived.Test.YtlhdbkbgedlmnaaDoorMaw
import Derived.Test.YtlhdbkbgedlmnaaDoorMrpick
import Derived.Test.YtlhdbkbgedlmnaaDoorMrefE
namespace Go.Proofs.YtlhdbkbgedlmnaaDoor
open Go.RowKit
set_option linter.unusedVariables false
set_option linter.unusedSimpArgs false
attribute [local go_sem ↓] ldM_eq stF_eq stM_eq

set_option maxHeartbeats 4000000 in
set_option maxRecDepth 100000 in
theorem metaNames_walk (w : World) : Calls Tryd.prog 11 #[] w fun e w' => e = .returned (.bool true) ∧ Chg (fun _ => False) w w' := by
  go_enter Tryd.func11, Tryd.ntmps11
  go_wp2_with fail
  refine (awake_calls _).mono ?_
  rintro e w1 ⟨rfl, hc⟩
  go_wp2_with fail
  go_ret
  exact ⟨rfl, hc⟩

/-- the cells of a frame and a record in memory -/
def FMS (gf gm : Nat) (f : Mt.F) (m : Mt.M) (w : World) : Prop := w.cell? ⟨gf, 0, none⟩ = some (.int .i64 f.page) ∧ w.cell? ⟨gf, 1, none⟩ = some (.int .i64 f.width) ∧ (ldAgg 31 (.pointer (some ⟨gm, 0, none⟩))).run Tryd.prog w = .ok (.agg (mcells m)) w ∧ FM w gf gm f m
theorem FM.said {w : World} {gf gm : Nat} {f : Mt.F} {m : Mt.M} (h : FM w gf gm f m) (hs : m.sum.length = 32) : FMS gf gm f m w := ⟨h.f0, h.f1, h.ld hs, h⟩
theorem keepFM {w w' : World} {gf gm : Nat} {f : Mt.F} {m : Mt.M} (hc : Chg (fun _ => False) w w') (hs : m.sum.length = 32) (h : FMS gf gm f m w) : FMS gf gm f m w' := (h.2.2.2.chg hc).said hs
theorem intBeq (a : Int) : (a == a) = true := by simp

set_option maxHeartbeats 4000000 in
set_option maxRecDepth 100000 in
theorem metaChecks_walk (f : Mt.F) (m : Mt.M) (w : World) (hm : m.Ok) : Calls Tryd.prog 3 #[FV f, .agg (mcells m)] w fun e w' => e = .returned (.bool true) ∧ Chg (fun _ => False) w w' := by
  have q0 := FM.new w f m
  have hch := ((Chg.refl (fun _ => False) w).alloc (.cells #[.int .i64 f.page, .int .i64 f.width] 23)).alloc (.cells (mcells m) 31)
  have Hms := Lib.hid hm.sum
  have Hm := Lib.hid hm
  have hbq := intBeq (chk f m)
  clear hm
  go_enter Tryd.func3, Tryd.ntmps3
  go_wp2_with fail
  generalize (w.alloc (.cells #[.int .i64 f.page, .int .i64 f.width] 23)).alloc (.cells (mcells m) 31) = w0 at *
  have q1 := (q0.said Hms.out)
  go_region_held3 (fun w' => w'.cell? ⟨w.heap.size, 0, none⟩ = some (.int .i64 f.page) ∧ w'.cell? ⟨w.heap.size, 1, none⟩ = some (.int .i64 f.width) ∧ (ldAgg 31 (.pointer (some ⟨w.heap.size + 1, 0, none⟩))).run Tryd.prog w' = .ok (.agg (mcells m)) w' ∧ FM w' w.heap.size (w.heap.size + 1) f m)
    (first | exact keepFM hc Hms.out (by assumption) | exact keepFM ((Chg.refl _ _).drew) Hms.out (by assumption))
    (first
      | (go_at_call 12; refine (check_calls f m _ Hm.out).mono ?_; rintro e w' ⟨rfl, hc⟩)
      | (go_at_call 13; refine (rcheck_calls f m _ Hm.out).mono ?_; rintro e w' ⟨rfl, hc⟩)
      | (go_at_call 14; refine (awake_calls _).mono ?_; rintro e w' ⟨rfl, hc⟩))
  rename_i wa ca wb cb hH
  have cx : Chg (fun _ => False) w w' := hch.trans (((((Chg.refl _ w0).drew).trans ca).trans cb).trans hc)
  go_wp2_with fail
  go_ret
  exact ⟨rfl, cx⟩

set_option maxHeartbeats 4000000 in
set_option maxRecDepth 100000 in
theorem metaEncodes_walk (f : Mt.F) (m : Mt.M) (w : World) (hm : m.Ok) : Calls Tryd.prog 4 #[FV f, .agg (mcells m)] w fun e w' => e = .returned (.bool true) ∧ Chg (fun _ => False) w w' := by
  have q := FM.new w f m
  have C := ((Chg.refl (fun _ => False) w).alloc (.cells #[.int .i64 f.page, .int .i64 f.width] 23)).alloc (.cells (mcells m) 31)
  have Hms := Lib.hid hm.sum
  have Hm := Lib.hid hm
  clear hm
  have l := q.ld Hms.out
  have f0 := q.f0
  have f1 := q.f1
  go_enter Tryd.func4, Tryd.ntmps4
  go_wp2_with fail
  refine (rencode_calls f m _ Hm.out).mono ?_
  rintro e w1 ⟨rfl, hc⟩
  have C := C.trans hc
  have q := q.chg hc
  clear hc l f0 f1
  have l := q.ld Hms.out
  have f0 := q.f0
  have f1 := q.f1
  go_wp2_with fail
  refine (encode_calls f m _ Hm.out).mono ?_
  rintro e w2 ⟨rfl, hc⟩
  have C := C.trans hc
  clear hc l f0 f1 q
  have hbq := intBeq (chk f m)
  go_wp2_with fail
  refine (awake_calls _).mono ?_
  rintro e w3 ⟨rfl, hc⟩
  have C := C.trans hc
  clear hc
  go_wp2_with fail
  go_ret
  exact ⟨rfl, C⟩

set_option maxHeartbeats 4000000 in
set_option maxRecDepth 100000 in
theorem metaDecodes_walk (f : Mt.F) (s : List UInt8) (w : World) : Calls Tryd.prog 5 #[FV f, S s] w fun e w' => e = .returned (.bool true) ∧ Chg (fun _ => False) w w' := by
  have k := Blk.new w 23 #[.int .i64 f.page, .int .i64 f.width]
  have C := (Chg.refl (fun _ => False) w).alloc (.cells #[.int .i64 f.page, .int .i64 f.width] 23)
  have hm := (dcM_ok f s).sum
  have Hms := Lib.hid hm
  have hcv : IntKind.i64.wrap (dcK f s : Int) = (dcK f s : Int) := IntWalk.i64_in _ (by
    have : dcK f s ≤ 3 := by
      unfold dcK; split
      · rcases kind_le f (Mt.sect f s) with h | h | h | h <;> omega
      · omega
    omega)
  have hbq := intBeq (dcK f s : Int)
  have hbe := intBeq (dcE f s)
  have heq := fun w => eql_meta (dcM f s) (dcM f s) hm hm w
  rw [decide_eq_true rfl] at heq
  have hgm := guard_meta
  clear hm
  go_enter Tryd.func5, Tryd.ntmps5
  go_wp2_with fail
  refine (rdecode_calls f s _).mono ?_
  rintro e w1 ⟨rfl, hc⟩
  obtain ⟨wy, st1, k1, hz⟩ := one_new w1 (dcM f s) Hms.out
  have C := (C.trans hc).trans hz
  have k := (k.chg hc (fun h => h)).chg hz (fun h => h)
  clear hc hz
  have f0 : wy.cell? ⟨w.heap.size, 0, none⟩ = some (.int .i64 f.page) := by rw [k.cell]; rfl
  have f1 : wy.cell? ⟨w.heap.size, 1, none⟩ = some (.int .i64 f.width) := by rw [k.cell]; rfl
  go_wp2_with fail
  refine (decode_calls f s _).mono ?_
  rintro e w2 ⟨rfl, hc⟩
  obtain ⟨wz, st2, k2, hz⟩ := one_new w2 (dcM f s) Hms.out
  have C := (C.trans hc).trans hz
  have k1 := (k1.chg hc (fun h => h)).chg hz (fun h => h)
  clear hc hz f0 f1 st1 k
  have l1 := ldM_of k1 Hms.out
  have l2 := ldM_of k2 Hms.out
  go_wp2_with fail
  refine (awake_calls _).mono ?_
  rintro e w3 ⟨rfl, hc⟩
  have C := C.trans hc
  clear hc
  go_wp2_with fail
  go_ret
  exact ⟨rfl, C⟩

theorem pick_ok (f : Mt.F) (x y : List UInt8) (n : Int) : (pick f x y n).1.Ok := by
  unfold pick
  split
  · exact zero_ok
  split
  · exact two_ok
  split
  · rename_i h
    have ha := told_ok f (Mt.sect f x) (by obtain ⟨q, -, h1, -, -, -, h2⟩ := fit_sect h.1; omega)
    have hb := told_ok f (Mt.sect f y) (by obtain ⟨q, -, h1, -, -, -, h2⟩ := fit_sect h.2; omega)
    unfold pickC
    split
    · exact ha
    split
    · exact hb
    split
    · exact zero_ok
    split
    · exact two_ok
    · exact zero_ok
  · exact zero_ok

set_option maxHeartbeats 4000000 in
set_option maxRecDepth 100000 in
theorem metaPicks_walk (f : Mt.F) (x y : List UInt8) (n : Int) (w : World) : Calls Tryd.prog 6 #[FV f, .agg #[S x, S y], .int .i64 n] w fun e w' => e = .returned (.bool true) ∧ Chg (fun _ => False) w w' := by
  have k := (Blk.new w 23 #[.int .i64 f.page, .int .i64 f.width]).alloc (.cells #[S x, S y] 48)
  have ks := Blk.new (w.alloc (.cells #[.int .i64 f.page, .int .i64 f.width] 23)) 48 #[S x, S y]
  rw [show (w.alloc (.cells #[.int .i64 f.page, .int .i64 f.width] 23)).heap.size = w.heap.size + 1 by simp] at ks
  have C := ((Chg.refl (fun _ => False) w).alloc (.cells #[.int .i64 f.page, .int .i64 f.width] 23)).alloc (.cells #[S x, S y] 48)
  have hm := (pick_ok f x y n).sum
  have HP := Lib.hid (fun w => pick_calls f x y n w)
  have HR := Lib.hid (fun w => rpick_calls f x y n w)
  generalize pick f x y n = r at *
  obtain ⟨m, a, b⟩ := r
  dsimp only at hm
  have Hms := Lib.hid hm
  have hbq := intBeq a
  have hbe := intBeq b
  have heq := fun w => eql_meta m m hm hm w
  rw [decide_eq_true rfl] at heq
  have hgm := guard_meta
  clear hm
  go_enter Tryd.func6, Tryd.ntmps6
  go_wp2_with fail
  refine (HR.out _).mono ?_
  rintro e w1 ⟨rfl, hc⟩
  obtain ⟨wy, st1, k1, hz⟩ := one_new w1 m Hms.out
  have C := (C.trans hc).trans hz
  have k := (k.chg hc (fun h => h)).chg hz (fun h => h)
  have ks := (ks.chg hc (fun h => h)).chg hz (fun h => h)
  clear hc hz
  have f0 : wy.cell? ⟨w.heap.size, 0, none⟩ = some (.int .i64 f.page) := by rw [k.cell]; rfl
  have f1 : wy.cell? ⟨w.heap.size, 1, none⟩ = some (.int .i64 f.width) := by rw [k.cell]; rfl
  have g0 : wy.cell? ⟨w.heap.size + 1, 0, none⟩ = some (S x) := by rw [ks.cell]; rfl
  have g1 : wy.cell? ⟨w.heap.size + 1, 1, none⟩ = some (S y) := by rw [ks.cell]; rfl
  go_wp2_with fail
  refine (HP.out _).mono ?_
  rintro e w2 ⟨rfl, hc⟩
  obtain ⟨wz, st2, k2, hz⟩ := one_new w2 m Hms.out
  have C := (C.trans hc).trans hz
  have k1 := (k1.chg hc (fun h => h)).chg hz (fun h => h)
  clear hc hz f0 f1 g0 g1 st1 k ks
  have l1 := ldM_of k1 Hms.out
  have l2 := ldM_of k2 Hms.out
  go_wp2_with fail
  refine (awake_calls _).mono ?_
  rintro e w3 ⟨rfl, hc⟩
  have C := C.trans hc
  clear hc
  go_wp2_with fail
  go_ret
  exact ⟨rfl, C⟩

set_option maxHeartbeats 4000000 in
set_option maxRecDepth 100000 in
theorem metaBack_walk (f : Mt.F) (m : Mt.M) (w : World) (hm : m.Ok) : Calls Tryd.prog 7 #[FV f, .agg (mcells m)] w fun e w' => e = .returned (.bool true) ∧ Chg (fun _ => False) w w' := by
  have q := FM.new w f m
  have C := ((Chg.refl (fun _ => False) w).alloc (.cells #[.int .i64 f.page, .int .i64 f.width] 23)).alloc (.cells (mcells m) 31)
  have Hms := Lib.hid hm.sum
  have Hm := Lib.hid hm
  cases hok : Mt.ok f m
  · have he : encS f m = [] := encS_no (by rw [hok]; simp)
    have hk : chk f m = 2 := chk_no (by rw [hok]; simp)
    have HE := Lib.hid (fun w => encode_calls f m w hm)
    have HC := Lib.hid (fun w => check_calls f m w hm)
    rw [he, hk] at HE
    rw [hk] at HC
    clear hm hok he hk
    go_enter Tryd.func7, Tryd.ntmps7
    go_wp2_with fail
    refine (awake_calls _).mono ?_
    rintro e w1 ⟨rfl, hc⟩
    have C := C.trans hc
    have q := q.chg hc
    clear hc
    have l := q.ld Hms.out
    have f0 := q.f0
    have f1 := q.f1
    go_wp2_with fail
    refine (HE.out _).mono ?_
    rintro e w2 ⟨rfl, hc⟩
    have C := C.trans hc
    have q := q.chg hc
    clear hc l f0 f1
    have l := q.ld Hms.out
    have f0 := q.f0
    have f1 := q.f1
    go_wp2_with fail
    refine (HC.out _).mono ?_
    rintro e w3 ⟨rfl, hc⟩
    have C := C.trans hc
    clear hc l f0 f1
    go_wp2_with fail
    go_ret
    exact ⟨rfl, C⟩
  · have he : encS f m = Mt.enc f m := encS_yes hok
    have hk : chk f m = 0 := chk_yes hok
    have HE := Lib.hid (fun w => encode_calls f m w hm)
    have HC := Lib.hid (fun w => check_calls f m w hm)
    have HD := Lib.hid (fun w => decode_calls f (Mt.enc f m) w)
    have hl := enc_length hm hok
    obtain ⟨d1, d2, d3⟩ := dc_back hm hok
    rw [he, hk] at HE
    rw [hk] at HC
    rw [d1, d2, d3] at HD
    obtain ⟨E, hE⟩ : ∃ E, E = Mt.enc f m := ⟨_, rfl⟩
    rw [← hE] at HE HD hl
    have hlb : ((E.length : Int) == f.page) = true := by rw [beq_iff_eq]; exact hl
    have heq := fun w => eql_meta m m Hms.out Hms.out w
    rw [decide_eq_true rfl] at heq
    have hgm := guard_meta
    clear hm hok he hk hE hl d1 d2 d3
    go_enter Tryd.func7, Tryd.ntmps7
    go_wp2_with fail
    refine (awake_calls _).mono ?_
    rintro e w1 ⟨rfl, hc⟩
    have C := C.trans hc
    have q := q.chg hc
    clear hc
    have l := q.ld Hms.out
    have f0 := q.f0
    have f1 := q.f1
    go_wp2_with fail
    refine (HE.out _).mono ?_
    rintro e w2 ⟨rfl, hc⟩
    have C := C.trans hc
    have q := q.chg hc
    clear hc l f0 f1
    have l := q.ld Hms.out
    have f0 := q.f0
    have f1 := q.f1
    go_wp2_with fail
    refine (HD.out _).mono ?_
    rintro e w3 ⟨rfl, hc⟩
    obtain ⟨wy, st1, k1, hz⟩ := one_new w3 m Hms.out
    have C := (C.trans hc).trans hz
    have q := (q.chg hc).chg hz
    clear hc hz l f0 f1
    have l := q.ld Hms.out
    have l1 := ldM_of k1 Hms.out
    have f0 := q.f0
    have f1 := q.f1
    go_wp2_with fail
    refine (HC.out _).mono ?_
    rintro e w4 ⟨rfl, hc⟩
    have C := C.trans hc
    clear hc l f0 f1
    go_wp2_with fail
    go_ret
    exact ⟨rfl, C⟩
end Go.Proofs.YtlhdbkbgedlmnaaDoor
