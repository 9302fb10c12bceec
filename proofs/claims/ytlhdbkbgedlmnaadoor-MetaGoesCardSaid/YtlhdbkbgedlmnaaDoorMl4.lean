/-
  Layer 6: the walk of the law MetaGoes.
-/
import Derived.Test.YtlhdbkbgedlmnaaDoorMl2
import Derived.Test.YtlhdbkbgedlmnaaDoorMop
import Derived.Deep.DeepCutAuto
namespace Go.Proofs.YtlhdbkbgedlmnaaDoor
open Go.RowKit
set_option linter.unusedVariables false
set_option linter.unusedSimpArgs false
attribute [local go_sem ↓] ldM_eq stF_eq stM_eq

theorem mixb0 (c : UInt8) : (bits BinOp.and IntKind.u8 (c.toNat : Int) 1 == 1) = mixb c.toNat 0 := by
  have := mixb_bits c 0
  simpa using this
theorem tcells_at (m : Mt.M) (hs : m.sum.length = 32) (c : UInt8) (n : Int) : (∀ (j : Nat) (v : Value), (mcells m)[j]? = some v → (tcells m c n)[j]? = some v) ∧ (tcells m c n)[38]? = some (.int .u8 c.toNat) ∧ (tcells m c n)[39]? = some (.int .i64 n) := by
  have hz := mcells_size m hs
  have hl : (mcells m).toList.length = 38 := by simpa using hz
  unfold tcells
  refine ⟨fun j v hj => ?_, ?_, ?_⟩
  · have hjl : j < 38 := by
      have := (Array.getElem?_eq_some_iff.1 hj).1
      omega
    rw [List.getElem?_toArray, List.getElem?_append_left (by omega)]
    simpa using hj
  · rw [List.getElem?_toArray, List.getElem?_append_right (by omega), hl]; rfl
  · rw [List.getElem?_toArray, List.getElem?_append_right (by omega), hl]; rfl
theorem ldT_of {w : World} {g : Nat} {t : TypeId} {m : Mt.M} {c : UInt8} {n : Int} (h : Blk w g t (tcells m c n)) (hs : m.sum.length = 32) : (ldAgg 31 (.pointer (some ⟨g, 0, none⟩))).run Tryd.prog w = .ok (.agg (mcells m)) w :=
  ldAgg_of Tryd.underlying31 rfl (by rw [mcells_size m hs]; exact size_meta) (fun j v hj => by rw [Nat.zero_add, h.cell]; exact (tcells_at m hs c n).1 j v hj)
/-- the law's frame, slots and turn in memory -/
structure GW (w0 w : World) (f : Mt.F) (x y : List UInt8) (m : Mt.M) (c : UInt8) (n : Int) : Prop where
  f : Blk w w0.heap.size 23 #[.int .i64 f.page, .int .i64 f.width]
  s : Blk w (w0.heap.size + 1) 48 #[S x, S y]
  t : Blk w (w0.heap.size + 1 + 1) 59 (tcells m c n)
  sum : m.sum.length = 32
  chg : Chg (fun _ => False) w0 w
section
variable {w0 w w' : World} {f : Mt.F} {x y : List UInt8} {m : Mt.M} {c : UInt8} {n : Int}
theorem GW.new (w : World) (f : Mt.F) (x y : List UInt8) (m : Mt.M) (hm : m.sum.length = 32) (c : UInt8) (n : Int) : GW w (((w.alloc (.cells #[.int .i64 f.page, .int .i64 f.width] 23)).alloc (.cells #[S x, S y] 48)).alloc (.cells (tcells m c n) 59)) f x y m c n := by
  have e0 : ∀ (w : World) (o : Obj), (w.alloc o).heap.size = w.heap.size + 1 := fun w o => by simp
  have q1 := Blk.new w 23 #[.int .i64 f.page, .int .i64 f.width]
  have q2 := Blk.new (w.alloc (.cells #[.int .i64 f.page, .int .i64 f.width] 23)) 48 #[S x, S y]
  have q3 := Blk.new ((w.alloc (.cells #[.int .i64 f.page, .int .i64 f.width] 23)).alloc (.cells #[S x, S y] 48)) 59 (tcells m c n)
  simp only [e0] at q1 q2 q3
  exact ⟨(q1.alloc _).alloc _, q2.alloc _, q3, hm, (((Chg.refl (fun _ => False) w).alloc _).alloc _).alloc _⟩
theorem GW.quiet (h : GW w0 w f x y m c n) (hc : Chg (fun _ => False) w w') : GW w0 w' f x y m c n :=
  ⟨h.f.chg hc (fun h => h), h.s.chg hc (fun h => h), h.t.chg hc (fun h => h), h.sum, h.chg.trans hc⟩
theorem GW.set0 (h : GW w0 w f x y m c n) (z : List UInt8) : GW w0 (w.setCell ⟨w0.heap.size + 1, 0, none⟩ (S z)) f z y m c n :=
  ⟨h.f.far (by show w0.heap.size ≠ w0.heap.size + 1; omega) _, h.s.set_ 0 (S z), h.t.far (by show w0.heap.size + 1 + 1 ≠ w0.heap.size + 1; omega) _, h.sum, h.chg.setCell (.inr (by show w0.heap.size ≤ w0.heap.size + 1; omega)) _⟩
theorem GW.set1 (h : GW w0 w f x y m c n) (z : List UInt8) : GW w0 (w.setCell ⟨w0.heap.size + 1, 1, none⟩ (S z)) f x z m c n :=
  ⟨h.f.far (by show w0.heap.size ≠ w0.heap.size + 1; omega) _, h.s.set_ 1 (S z), h.t.far (by show w0.heap.size + 1 + 1 ≠ w0.heap.size + 1; omega) _, h.sum, h.chg.setCell (.inr (by show w0.heap.size ≤ w0.heap.size + 1; omega)) _⟩
theorem GW.fcells (h : GW w0 w f x y m c n) : w.cell? ⟨w0.heap.size, 0, none⟩ = some (.int .i64 f.page) ∧ w.cell? ⟨w0.heap.size, 1, none⟩ = some (.int .i64 f.width) := ⟨by rw [h.f.cell]; rfl, by rw [h.f.cell]; rfl⟩
theorem GW.scells (h : GW w0 w f x y m c n) : w.cell? ⟨w0.heap.size + 1, 0, none⟩ = some (S x) ∧ w.cell? ⟨w0.heap.size + 1, 1, none⟩ = some (S y) := ⟨by rw [h.s.cell]; rfl, by rw [h.s.cell]; rfl⟩
theorem GW.tcells (h : GW w0 w f x y m c n) : w.cell? ⟨w0.heap.size + 1 + 1, 0, none⟩ = some (.int .u64 m.ver) ∧ w.cell? ⟨w0.heap.size + 1 + 1, 37, none⟩ = some (.int .u32 m.pages) ∧ w.cell? ⟨w0.heap.size + 1 + 1, 38, none⟩ = some (.int .u8 c.toNat) ∧ w.cell? ⟨w0.heap.size + 1 + 1, 39, none⟩ = some (.int .i64 n) ∧
    (ldAgg 31 (.pointer (some ⟨w0.heap.size + 1 + 1, 0, none⟩))).run Tryd.prog w = .ok (.agg (mcells m)) w := by
  obtain ⟨a0, -, -, -, -, -, a2⟩ := mcells_at m h.sum
  obtain ⟨t0, t1, t2⟩ := tcells_at m h.sum c n
  exact ⟨by rw [h.t.cell]; exact t0 _ _ a0, by rw [h.t.cell]; exact t0 _ _ a2, by rw [h.t.cell]; exact t1, by rw [h.t.cell]; exact t2, ldT_of h.t h.sum⟩
end
theorem pick_ok2 (f : Mt.F) (x y : List UInt8) (n : Int) : (pick f x y n).1.Ok := by
  unfold pick
  split
  · exact zero_ok
  split
  · exact two_ok
  split
  · rename_i h
    have ha := told_ok f (Mt.sect f x) (by obtain ⟨q, -, h1, -, -, -, h2⟩ := fit_sect h.1; omega)
    have hb := told_ok f (Mt.sect f y) (by obtain ⟨q, -, h1, -, -, -, h2⟩ := fit_sect h.2; omega)
    unfold pickC
    split
    · exact ha
    split
    · exact hb
    split
    · exact zero_ok
    split
    · exact two_ok
    · exact zero_ok
  · exact zero_ok
theorem chk_0 {f : Mt.F} {m : Mt.M} (h : chk f m = 0) : Mt.ok f m = true := by
  unfold chk at h
  by_cases hok : Mt.ok f m = true
  · exact hok
  · rw [if_neg hok] at h; exact absurd h (by decide)
/-- when something is gone on from -/
def goB (e k n : Int) (o m : Mt.M) : Bool := decide (e = 0 ∧ k = 0 ∧ 2 ≤ n ∧ o.ver < m.ver ∧ (m.pages : Int) ≤ n)

set_option maxHeartbeats 8000000 in
set_option maxRecDepth 100000 in
theorem metaGoes_walk (f : Mt.F) (x y : List UInt8) (m : Mt.M) (c : UInt8) (n : Int) (w : World) (hm : m.Ok) : Calls Tryd.prog 10 #[FV f, .agg #[S x, S y], .agg (tcells m c n)] w fun e w' => e = .returned (.bool true) ∧ Chg (fun _ => False) w w' := by
  have G := GW.new w f x y m hm.sum c n
  have HP := Lib.hid (fun w => pick_calls f x y n w)
  have HE := Lib.hid (fun w => encode_calls f m w hm)
  have Hm := Lib.hid hm
  have ho := (pick_ok2 f x y n).sum
  have hov := (pick_ok2 f x y n).ver
  obtain ⟨o, nx, e, hr⟩ : ∃ o nx e, pick f x y n = (o, nx, e) := ⟨_, _, _, rfl⟩
  rw [hr] at HP ho hov
  dsimp only at ho hov
  have Hr := Lib.hid hr
  have Ho := Lib.hid ho
  have hpg : IntKind.i64.wrap (m.pages : Int) = (m.pages : Int) := IntWalk.i64_in _ (by have := hm.pages; omega)
  obtain ⟨E, hE⟩ : ∃ E, E = encS f m := ⟨_, rfl⟩
  obtain ⟨k, hk⟩ : ∃ k, k = chk f m := ⟨_, rfl⟩
  rw [← hE, ← hk] at HE
  have HE1 := Lib.hid hE
  have Hk := Lib.hid hk
  clear hr ho hm hE hk hov
  go_enter Tryd.func10, Tryd.ntmps10
  go_wp2_with fail
  refine (awake_calls _).mono ?_
  rintro e w1 ⟨rfl, hc⟩
  have G := G.quiet hc
  clear hc
  obtain ⟨f0, f1⟩ := G.fcells
  obtain ⟨s0, s1⟩ := G.scells
  obtain ⟨t0, t1, t2, t3, t4⟩ := G.tcells
  go_wp2_with fail
  refine (HP.out _).mono ?_
  rintro e w2 ⟨rfl, hc⟩
  obtain ⟨wy, st1, k1, hz⟩ := one_new w2 o Ho.out
  have hgs : w.heap.size + 1 < w2.heap.size := (G.quiet hc).s.lt
  have G := (G.quiet hc).quiet hz
  clear hc hz f0 f1 s0 s1 t0 t1 t2 t3 t4
  obtain ⟨f0, f1⟩ := G.fcells
  obtain ⟨s0, s1⟩ := G.scells
  obtain ⟨t0, t1, t2, t3, t4⟩ := G.tcells
  go_wp2_with fail
  refine (HE.out _).mono ?_
  rintro e w3 ⟨rfl, hc⟩
  have G := G.quiet hc
  have k1 := k1.chg hc (fun h => h)
  clear hc f0 f1 s0 s1 t0 t1 t2 t3 t4 st1
  obtain ⟨f0, f1⟩ := G.fcells
  obtain ⟨s0, s1⟩ := G.scells
  obtain ⟨t0, t1, t2, t3, t4⟩ := G.tcells
  obtain ⟨o0, o1, o2⟩ := blkM k1 Ho.out
  go_upto_region 5 with fail
  go_cut [62] (fun s62 wx => s62 = .bool (!goB e k n o m) ∧ wx = w3)
  case first =>
    by_cases c1 : e = 0
    · by_cases c2 : k = 0
      · by_cases c3 : 2 ≤ n
        · by_cases c4 : o.ver < m.ver
          · by_cases c5 : (m.pages : Int) ≤ n
            · have Hb := Lib.hid (show goB e k n o m = true by unfold goB; rw [decide_eq_true_iff]; omega)
              have z1 : (e == 0) = true := by rw [beq_iff_eq]; exact c1
              have z2 : (e != 0) = false := by rw [bne, z1]; rfl
              have z3 : (k == 0) = true := by rw [beq_iff_eq]; exact c2
              have z4 : (k != 0) = false := by rw [bne, z3]; rfl
              have z5 : decide (n < 2) = false := by rw [decide_eq_false_iff_not]; omega
              have z6 : decide (m.ver ≤ o.ver) = false := by rw [decide_eq_false_iff_not]; omega
              have z7 : decide (n < (m.pages : Int)) = false := by rw [decide_eq_false_iff_not]; omega
              clear c1 c2 c3 c4 c5
              go_wp2_with fail
              go_meet
              exact ⟨by rw [Hb.out]; rfl, rfl⟩
            · have Hb := Lib.hid (show goB e k n o m = false by unfold goB; rw [decide_eq_false_iff_not]; omega)
              have z1 : (e == 0) = true := by rw [beq_iff_eq]; exact c1
              have z2 : (e != 0) = false := by rw [bne, z1]; rfl
              have z3 : (k == 0) = true := by rw [beq_iff_eq]; exact c2
              have z4 : (k != 0) = false := by rw [bne, z3]; rfl
              have z5 : decide (n < 2) = false := by rw [decide_eq_false_iff_not]; omega
              have z6 : decide (m.ver ≤ o.ver) = false := by rw [decide_eq_false_iff_not]; omega
              have z7 : decide (n < (m.pages : Int)) = true := by rw [decide_eq_true_iff]; omega
              clear c1 c2 c3 c4 c5
              go_wp2_with fail
              go_meet
              exact ⟨by rw [Hb.out]; rfl, rfl⟩
          · have Hb := Lib.hid (show goB e k n o m = false by unfold goB; rw [decide_eq_false_iff_not]; omega)
            have z1 : (e == 0) = true := by rw [beq_iff_eq]; exact c1
            have z2 : (e != 0) = false := by rw [bne, z1]; rfl
            have z3 : (k == 0) = true := by rw [beq_iff_eq]; exact c2
            have z4 : (k != 0) = false := by rw [bne, z3]; rfl
            have z5 : decide (n < 2) = false := by rw [decide_eq_false_iff_not]; omega
            have z6 : decide (m.ver ≤ o.ver) = true := by rw [decide_eq_true_iff]; omega
            clear c1 c2 c3 c4
            go_wp2_with fail
            go_meet
            exact ⟨by rw [Hb.out]; rfl, rfl⟩
        · have Hb := Lib.hid (show goB e k n o m = false by unfold goB; rw [decide_eq_false_iff_not]; omega)
          have z1 : (e == 0) = true := by rw [beq_iff_eq]; exact c1
          have z2 : (e != 0) = false := by rw [bne, z1]; rfl
          have z3 : (k == 0) = true := by rw [beq_iff_eq]; exact c2
          have z4 : (k != 0) = false := by rw [bne, z3]; rfl
          have z5 : decide (n < 2) = true := by rw [decide_eq_true_iff]; omega
          clear c1 c2 c3
          go_wp2_with fail
          go_meet
          exact ⟨by rw [Hb.out]; rfl, rfl⟩
      · have Hb := Lib.hid (show goB e k n o m = false by unfold goB; rw [decide_eq_false_iff_not]; omega)
        have z1 : (e == 0) = true := by rw [beq_iff_eq]; exact c1
        have z2 : (e != 0) = false := by rw [bne, z1]; rfl
        have z3 : (k == 0) = false := by rw [beq_eq_false_iff_ne]; exact c2
        have z4 : (k != 0) = true := by rw [bne, z3]; rfl
        clear c1 c2
        go_wp2_with fail
        go_meet
        exact ⟨by rw [Hb.out]; rfl, rfl⟩
    · have Hb := Lib.hid (show goB e k n o m = false by unfold goB; rw [decide_eq_false_iff_not]; omega)
      have z1 : (e == 0) = false := by rw [beq_eq_false_iff_ne]; exact c1
      have z2 : (e != 0) = true := by rw [bne, z1]; rfl
      clear c1
      go_wp2_with fail
      go_meet
      exact ⟨by rw [Hb.out]; rfl, rfl⟩
  case rest =>
  obtain ⟨rfl, rfl⟩ := hcut
  have C := G.chg
  cases hb : goB e k n o m
  · clear hb
    go_wp2_with fail
    go_ret
    exact ⟨rfl, C⟩
  · unfold goB at hb
    rw [decide_eq_true_iff] at hb
    obtain ⟨rfl, hk0, hn, hv, hpn⟩ := hb
    have hok := chk_0 (Hk.out.symm.trans hk0)
    have hmf := ok_may hok
    have hEe : E = Mt.enc f m := HE1.out.trans (encS_yes hok)
    have hr0 : (pick f x y n).2.2 = 0 := by rw [Hr.out]
    have hfit := pick_ok_fit hmf hn hr0
    have hnx := pick_01 hmf hn hr0
    rw [Hr.out] at hnx
    dsimp only at hnx
    obtain ⟨qq, hq1, hq2, hq3, hxl, -, -⟩ := fit_sect hfit.1
    have hyl : y.length = 8 * qq := by
      obtain ⟨q', hq1', -, -, hyl, -, -⟩ := fit_sect hfit.2
      omega
    have hEl : E.length = 8 * qq := by
      have := enc_length Hm.out hok
      rw [← hEe] at this
      omega
    have hback := back Hm.out hok
    rw [← hEe] at hback
    have hpg2 : f = ⟨8 * (qq : Int), f.width⟩ := by obtain ⟨p, wd⟩ := f; dsimp only at hq1 ⊢; rw [hq1]
    have Hgs := Lib.hid hgs
    have Hn := Lib.hid hn
    have Hv := Lib.hid hv
    have Hpn := Lib.hid hpn
    have Hmf := Lib.hid hmf
    have Hfit := Lib.hid hfit
    have Hr0 := Lib.hid hr0
    have Hback := Lib.hid hback
    have Hq1 := Lib.hid hq1
    have Hxl := Lib.hid hxl
    have Hyl := Lib.hid hyl
    have HEl := Lib.hid hEl
    have Hk0 := Lib.hid hk0
    have hm0 := mixb0 c
    have hgm := guard_meta
    have hmm := fun w => eql_meta m m Hm.out.sum Hm.out.sum w
    have hoo := fun w => eql_meta o o Ho.out Ho.out w
    rw [decide_eq_true rfl] at hmm hoo
    rcases hnx with rfl | rfl
    · have HMix := Lib.hid (fun w => mixed_calls qq f.width x E c w hq3 Hxl.out HEl.out)
      have hs := mixed_sect (f := f) (a := x) (b := E) (c := c.toNat) Hq1.out Hxl.out HEl.out
      have hft := mixed_fit (f := f) (a := x) (b := E) (c := c.toNat) Hmf.out Hq1.out Hxl.out HEl.out
      obtain ⟨X, hX⟩ : ∃ X, X = mixed qq x E c.toNat 8 := ⟨_, rfl⟩
      rw [← hX] at HMix hs hft
      rw [← hpg2] at HMix
      have hpk : mixb c.toNat 0 = true ∧ pick f X y n = (m, 1, 0) ∨ mixb c.toNat 0 = false ∧ pick f X y n = (o, 0, 0) := by
        cases hmb : mixb c.toNat 0
        · right
          rw [hmb, if_neg (by simp)] at hs
          exact ⟨rfl, (pick_same Hmf.out Hn.out Hfit.out ⟨hft, Hfit.out.2⟩ hs rfl).trans Hr.out⟩
        · left
          rw [hmb, if_pos rfl] at hs
          exact ⟨rfl, goes_zero Hmf.out Hn.out Hr0.out (by rw [Hr.out]) Hpn.out (by rw [Hr.out]; exact Hv.out) hft (by rw [hs]; exact Hback.out.2)⟩
      have HP2 := Lib.hid (fun w => pick_calls f X y n w)
      have Hpk := Lib.hid hpk
      clear hpk hs hft hX hq1 hq2 hq3 hxl hyl hEl hk0 hok hmf hEe hr0 hfit hback hpg2 hn hv hpn hgs C
      go_wp2_with fail
      refine (HMix.out _).mono ?_
      rintro e w4 ⟨rfl, hc⟩
      have G := G.quiet hc
      have k1 := k1.chg hc (fun h => h)
      have hs := G.s.frozen 0
      clear hc f0 f1 s0 s1 t0 t1 t2 t3 t4 o0 o1 o2
      obtain ⟨s0, s1⟩ := G.scells
      have Gz := G.set0 X
      have k1 := k1.far (p := ⟨w.heap.size + 1, 0, none⟩) (by have := Hgs.out; show w2.heap.size ≠ w.heap.size + 1; omega) (S X)
      obtain ⟨f0, f1⟩ := Gz.fcells
      obtain ⟨u0, u1⟩ := Gz.scells
      obtain ⟨t0, t1, t2, t3, t4⟩ := Gz.tcells
      go_wp2_with fail
      refine (HP2.out _).mono ?_
      rintro e w5 ⟨rfl, hc⟩
      clear hs s0 s1 u0 u1 f0 f1 t0 t1 t2 t3 t4
      rcases Hpk.out with ⟨hmb, hpk⟩ | ⟨hmb, hpk⟩
      · rw [hmb] at hm0
        rw [hpk]
        obtain ⟨wz, st2, k2, hz⟩ := one_new w5 m Hm.out.sum
        have G := (Gz.quiet hc).quiet hz
        have k1 := (k1.chg hc (fun h => h)).chg hz (fun h => h)
        clear hc hz hmb hpk
        obtain ⟨t0, t1, t2, t3, t4⟩ := G.tcells
        have l1 := ldM_of k1 Ho.out
        have l2 := ldM_of k2 Hm.out.sum
        have C := G.chg
        go_wp2_with fail
        go_ret
        exact ⟨rfl, C⟩
      · rw [hmb] at hm0
        rw [hpk]
        obtain ⟨wz, st2, k2, hz⟩ := one_new w5 o Ho.out
        have G := (Gz.quiet hc).quiet hz
        have k1 := (k1.chg hc (fun h => h)).chg hz (fun h => h)
        clear hc hz hmb hpk
        obtain ⟨t0, t1, t2, t3, t4⟩ := G.tcells
        have l1 := ldM_of k1 Ho.out
        have l2 := ldM_of k2 Ho.out
        have C := G.chg
        go_wp2_with fail
        go_ret
        exact ⟨rfl, C⟩
    · have HMix := Lib.hid (fun w => mixed_calls qq f.width y E c w hq3 Hyl.out HEl.out)
      have hs := mixed_sect (f := f) (a := y) (b := E) (c := c.toNat) Hq1.out Hyl.out HEl.out
      have hft := mixed_fit (f := f) (a := y) (b := E) (c := c.toNat) Hmf.out Hq1.out Hyl.out HEl.out
      obtain ⟨X, hX⟩ : ∃ X, X = mixed qq y E c.toNat 8 := ⟨_, rfl⟩
      rw [← hX] at HMix hs hft
      rw [← hpg2] at HMix
      have hpk : mixb c.toNat 0 = true ∧ pick f x X n = (m, 0, 0) ∨ mixb c.toNat 0 = false ∧ pick f x X n = (o, 1, 0) := by
        cases hmb : mixb c.toNat 0
        · right
          rw [hmb, if_neg (by simp)] at hs
          exact ⟨rfl, (pick_same Hmf.out Hn.out Hfit.out ⟨Hfit.out.1, hft⟩ rfl hs).trans Hr.out⟩
        · left
          rw [hmb, if_pos rfl] at hs
          exact ⟨rfl, (goes_one Hmf.out Hn.out Hr0.out (by rw [Hr.out]; show (1 : Int) ≠ 0; decide) Hpn.out (by rw [Hr.out]; exact Hv.out) hft (by rw [hs]; exact Hback.out.2)).1⟩
      have HP2 := Lib.hid (fun w => pick_calls f x X n w)
      have Hpk := Lib.hid hpk
      clear hpk hs hft hX hq1 hq2 hq3 hxl hyl hEl hk0 hok hmf hEe hr0 hfit hback hpg2 hn hv hpn hgs C
      go_wp2_with fail
      refine (HMix.out _).mono ?_
      rintro e w4 ⟨rfl, hc⟩
      have G := G.quiet hc
      have k1 := k1.chg hc (fun h => h)
      have hs := G.s.frozen 1
      clear hc f0 f1 s0 s1 t0 t1 t2 t3 t4 o0 o1 o2
      obtain ⟨s0, s1⟩ := G.scells
      have Gz := G.set1 X
      have k1 := k1.far (p := ⟨w.heap.size + 1, 1, none⟩) (by have := Hgs.out; show w2.heap.size ≠ w.heap.size + 1; omega) (S X)
      obtain ⟨f0, f1⟩ := Gz.fcells
      obtain ⟨u0, u1⟩ := Gz.scells
      obtain ⟨t0, t1, t2, t3, t4⟩ := Gz.tcells
      go_wp2_with fail
      refine (HP2.out _).mono ?_
      rintro e w5 ⟨rfl, hc⟩
      clear hs s0 s1 u0 u1 f0 f1 t0 t1 t2 t3 t4
      rcases Hpk.out with ⟨hmb, hpk⟩ | ⟨hmb, hpk⟩
      · rw [hmb] at hm0
        rw [hpk]
        obtain ⟨wz, st2, k2, hz⟩ := one_new w5 m Hm.out.sum
        have G := (Gz.quiet hc).quiet hz
        have k1 := (k1.chg hc (fun h => h)).chg hz (fun h => h)
        clear hc hz hmb hpk
        obtain ⟨t0, t1, t2, t3, t4⟩ := G.tcells
        have l1 := ldM_of k1 Ho.out
        have l2 := ldM_of k2 Hm.out.sum
        have C := G.chg
        go_wp2_with fail
        go_ret
        exact ⟨rfl, C⟩
      · rw [hmb] at hm0
        rw [hpk]
        obtain ⟨wz, st2, k2, hz⟩ := one_new w5 o Ho.out
        have G := (Gz.quiet hc).quiet hz
        have k1 := (k1.chg hc (fun h => h)).chg hz (fun h => h)
        clear hc hz hmb hpk
        obtain ⟨t0, t1, t2, t3, t4⟩ := G.tcells
        have l1 := ldM_of k1 Ho.out
        have l2 := ldM_of k2 Ho.out
        have C := G.chg
        go_wp2_with fail
        go_ret
        exact ⟨rfl, C⟩
end Go.Proofs.YtlhdbkbgedlmnaaDoor
