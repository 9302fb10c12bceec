/-
  Layer 6: the walk of the law MetaWhole.
-/
import Derived.Test.YtlhdbkbgedlmnaaDoorMl2
namespace Go.Proofs.YtlhdbkbgedlmnaaDoor
open Go.RowKit
set_option linter.unusedVariables false
set_option linter.unusedSimpArgs false
attribute [local go_sem ↓] ldM_eq stF_eq stM_eq

theorem fit_may2 {f : Mt.F} {s : List UInt8} (h : Mt.fit f s = true) : Mt.mayF f = true := by unfold Mt.fit at h; simp only [Bool.and_eq_true] at h; exact h.1
theorem intBeq2 (a : Int) : (a == a) = true := by simp
/-- a law's frame and slots in memory, two records that were told beside them -/
structure TW (w0 w : World) (f : Mt.F) (x y : List UInt8) (g1 g2 : Nat) (a b : Mt.M) : Prop where
  f : Blk w w0.heap.size 23 #[.int .i64 f.page, .int .i64 f.width]
  s : Blk w (w0.heap.size + 1) 48 #[S x, S y]
  a : Blk w g1 31 (mcells a)
  b : Blk w g2 31 (mcells b)
  chg : Chg (fun _ => False) w0 w
section
variable {w0 w w' : World} {f : Mt.F} {x y : List UInt8} {g1 g2 : Nat} {a b : Mt.M}
theorem TW.quiet (h : TW w0 w f x y g1 g2 a b) (hc : Chg (fun _ => False) w w') : TW w0 w' f x y g1 g2 a b :=
  ⟨h.f.chg hc (fun h => h), h.s.chg hc (fun h => h), h.a.chg hc (fun h => h), h.b.chg hc (fun h => h), h.chg.trans hc⟩
theorem TW.cells (h : TW w0 w f x y g1 g2 a b) : w.cell? ⟨w0.heap.size, 0, none⟩ = some (.int .i64 f.page) ∧ w.cell? ⟨w0.heap.size, 1, none⟩ = some (.int .i64 f.width) ∧ w.cell? ⟨w0.heap.size + 1, 0, none⟩ = some (S x) ∧ w.cell? ⟨w0.heap.size + 1, 1, none⟩ = some (S y) :=
  ⟨by rw [h.f.cell]; rfl, by rw [h.f.cell]; rfl, by rw [h.s.cell]; rfl, by rw [h.s.cell]; rfl⟩
/-- what the drawn region reads -/
def TWS (n : Nat) (f : Mt.F) (x y : List UInt8) (g1 g2 : Nat) (a b : Mt.M) (w0 w : World) : Prop := w.cell? ⟨n, 0, none⟩ = some (.int .i64 f.page) ∧ w.cell? ⟨n, 1, none⟩ = some (.int .i64 f.width) ∧ w.cell? ⟨n + 1, 0, none⟩ = some (S x) ∧ w.cell? ⟨n + 1, 1, none⟩ = some (S y) ∧ TW w0 w f x y g1 g2 a b
theorem TW.said (h : TW w0 w f x y g1 g2 a b) : TWS w0.heap.size f x y g1 g2 a b w0 w :=
  ⟨h.cells.1, h.cells.2.1, h.cells.2.2.1, h.cells.2.2.2, h⟩
theorem TW.row (h : TW w0 w f x y g1 g2 a b) (g : Nat) (_hg : g < w.heap.size) (hn : w0.heap.size + 1 < g ∧ g ≠ g1 ∧ g ≠ g2) (cs : Array Value) : TW w0 (w.setRow g cs) f x y g1 g2 a b :=
  ⟨h.f.setRow_far (by omega) _, h.s.setRow_far (by omega) _, h.a.setRow_far (by omega) _, h.b.setRow_far (by omega) _, h.chg.new (Chg.setRow (g := g) (Chg.refl (fun k => k = g) w) (.inl rfl) _) (fun k e => by omega)⟩
theorem TW.fresh (h : TW w0 w f x y g1 g2 a b) : w0.heap.size + 1 < w.heap.size ∧ g1 < w.heap.size ∧ g2 < w.heap.size := ⟨h.s.lt, h.a.lt, h.b.lt⟩
end

set_option maxHeartbeats 4000000 in
set_option maxRecDepth 100000 in
theorem metaWhole_walk (f : Mt.F) (x y : List UInt8) (c : UInt8) (w : World) : Calls Tryd.prog 9 #[FV f, .agg #[S x, S y], .int .u8 c.toNat] w fun e w' => e = .returned (.bool true) ∧ Chg (fun _ => False) w w' := by
  have kf := (Blk.new w 23 #[.int .i64 f.page, .int .i64 f.width]).alloc (.cells #[S x, S y] 48)
  have ks := Blk.new (w.alloc (.cells #[.int .i64 f.page, .int .i64 f.width] 23)) 48 #[S x, S y]
  rw [show (w.alloc (.cells #[.int .i64 f.page, .int .i64 f.width] 23)).heap.size = w.heap.size + 1 by simp] at ks
  have C := ((Chg.refl (fun _ => False) w).alloc (.cells #[.int .i64 f.page, .int .i64 f.width] 23)).alloc (.cells #[S x, S y] 48)
  have hmx := Lib.hid (dcM_ok f x).sum
  have hmy := Lib.hid (dcM_ok f y).sum
  have HX := Lib.hid (fun w => decode_calls f x w)
  have HY := Lib.hid (fun w => decode_calls f y w)
  have key : ∀ (P : Prop), P ∨ ¬ P := fun P => Classical.em P
  rcases key (Mt.fit f x = true ∧ Mt.fit f y = true) with hfit | hfit
  · have e1 := (dcd_fit hfit.1).2.2
    have e2 := (dcd_fit hfit.2).2.2
    rw [e1] at HX
    rw [e2] at HY
    have Hfit := Lib.hid hfit
    clear hfit e1 e2 key
    go_enter Tryd.func9, Tryd.ntmps9
    go_wp2_with fail
    refine (awake_calls _).mono ?_
    rintro e w1 ⟨rfl, hc⟩
    have C := C.trans hc
    have kf := kf.chg hc (fun h => h)
    have ks := ks.chg hc (fun h => h)
    clear hc
    have f0 : w1.cell? ⟨w.heap.size, 0, none⟩ = some (.int .i64 f.page) := by rw [kf.cell]; rfl
    have f1 : w1.cell? ⟨w.heap.size, 1, none⟩ = some (.int .i64 f.width) := by rw [kf.cell]; rfl
    have s0 : w1.cell? ⟨w.heap.size + 1, 0, none⟩ = some (S x) := by rw [ks.cell]; rfl
    go_wp2_with fail
    refine (HX.out _).mono ?_
    rintro e w2 ⟨rfl, hc⟩
    obtain ⟨wy, st1, k1, hz⟩ := one_new w2 (dcM f x) hmx.out
    have C := (C.trans hc).trans hz
    have kf := (kf.chg hc (fun h => h)).chg hz (fun h => h)
    have ks := (ks.chg hc (fun h => h)).chg hz (fun h => h)
    clear hc hz f0 f1 s0
    have f0 : wy.cell? ⟨w.heap.size, 0, none⟩ = some (.int .i64 f.page) := by rw [kf.cell]; rfl
    have f1 : wy.cell? ⟨w.heap.size, 1, none⟩ = some (.int .i64 f.width) := by rw [kf.cell]; rfl
    have s0 : wy.cell? ⟨w.heap.size + 1, 1, none⟩ = some (S y) := by rw [ks.cell]; rfl
    go_wp2_with fail
    refine (HY.out _).mono ?_
    rintro e w3 ⟨rfl, hc⟩
    obtain ⟨wz, st2, k2, hz⟩ := one_new w3 (dcM f y) hmy.out
    have T : TW w wz f x y w2.heap.size w3.heap.size (dcM f x) (dcM f y) := ⟨(kf.chg hc (fun h => h)).chg hz (fun h => h), (ks.chg hc (fun h => h)).chg hz (fun h => h), (k1.chg hc (fun h => h)).chg hz (fun h => h), k2, (C.trans hc).trans hz⟩
    clear hc hz f0 f1 s0 kf ks k1 k2 C st1
    obtain ⟨qq, hq1, hq2, hq3, hxl, -, -⟩ := fit_sect Hfit.out.1
    have hyl : y.length = 8 * qq := by
      obtain ⟨q', hq1', -, -, hyl, -, -⟩ := fit_sect Hfit.out.2
      omega
    have hmf := fit_may2 Hfit.out.1
    have hs := mixed_sect (f := f) (a := x) (b := y) (c := c.toNat) hq1 hxl hyl
    have hft := mixed_fit (f := f) (a := x) (b := y) (c := c.toNat) hmf hq1 hxl hyl
    have HMix := Lib.hid (fun w => mixed_calls qq f.width x y c w hq3 hxl hyl)
    obtain ⟨X, hX⟩ : ∃ X, X = mixed qq x y c.toNat 8 := ⟨_, rfl⟩
    rw [← hX] at HMix hs hft
    have HD := Lib.hid (fun w => decode_calls f X w)
    have hpg : f = ⟨8 * (qq : Int), f.width⟩ := by obtain ⟨p, wd⟩ := f; dsimp only at hq1 ⊢; rw [hq1]
    rw [← hpg] at HMix
    have hmX := Lib.hid (dcM_ok f X).sum
    have e1 := (dcd_fit hft).2.2
    rw [e1] at HD
    have Hs := Lib.hid hs
    have Hft := Lib.hid hft
    clear hq1 hq2 hq3 hxl hyl hmf hs hft hX hpg e1
    have hst := fun (u : World) => stM_new u u.heap.size rfl (mcells Mt.zero) (mcells (dcM f X)) (mcells_size _ rfl) (mcells_size _ hmX.out) (mcells_one _)
    change ∀ u : World, (stAgg 31 (.pointer (some ⟨u.heap.size, 0, none⟩)) (.agg (mcells (dcM f X)))).run Tryd.prog (u.alloc (.cells #[.int .u64 0, .int .u32 0, .int .u8 0, .int .u8 0, .int .u8 0, .int .u8 0, .int .u8 0, .int .u8 0, .int .u8 0, .int .u8 0, .int .u8 0, .int .u8 0, .int .u8 0, .int .u8 0, .int .u8 0, .int .u8 0, .int .u8 0, .int .u8 0, .int .u8 0, .int .u8 0, .int .u8 0, .int .u8 0, .int .u8 0, .int .u8 0, .int .u8 0, .int .u8 0, .int .u8 0, .int .u8 0, .int .u8 0, .int .u8 0, .int .u8 0, .int .u8 0, .int .u8 0, .int .u8 0, .int .u64 0, .int .u64 0, .int .u32 0, .int .u32 0] 31)) = _ at hst
    go_upto_region 7 with fail
    have hx0 := T.fresh
    go_cut [13, 14, 15] (fun s13 s14 s15 wx => ∃ g : Nat, s13 = .pointer (some ⟨g, 0, none⟩) ∧ s14 = .int .u8 (dcK f X) ∧ s15 = .int .i64 0 ∧ TW w wx f x y w2.heap.size w3.heap.size (dcM f x) (dcM f y) ∧ Blk wx g 31 (mcells (dcM f X)))
    case first =>
      refine wp_region_held_drew (S := (fun w' => TWS w.heap.size f x y w2.heap.size w3.heap.size (dcM f x) (dcM f y) w w')) (by kernel_rfl) (T.quiet ((Chg.refl _ _).drew)).said (fun hHeld => ?_)
      refine wpAnyH_take (i := 0) (v := (FV f)) rfl (by kernel_rfl) (by kernel_rfl) (by kernel_rfl) (fun _ _ _ h => h) (Or.inl ⟨by rfl, ?_⟩) hHeld ?_
      · intro w hSw
        obtain ⟨s1, s2, s3, s4, -⟩ := hSw
        go_simp
      try simp only [Act.put, List.getElem_toArray, List.getElem_cons_zero, List.getElem_cons_succ, List.setIfInBounds_toArray, List.set_cons_zero, List.set_cons_succ]
      refine wpAnyH_take (i := 1) (v := (FV f)) rfl (by kernel_rfl) (by kernel_rfl) (by kernel_rfl) (fun _ _ _ h => h) (Or.inl ⟨by rfl, ?_⟩) hHeld ?_
      · intro w hSw
        obtain ⟨s1, s2, s3, s4, -⟩ := hSw
        go_simp
      try simp only [Act.put, List.getElem_toArray, List.getElem_cons_zero, List.getElem_cons_succ, List.setIfInBounds_toArray, List.set_cons_zero, List.set_cons_succ]
      refine wpAnyH_take (i := 2) (v := (.pointer (some ⟨w.heap.size + 1, 0, none⟩))) rfl (by kernel_rfl) (by kernel_rfl) (by kernel_rfl) (fun _ _ _ h => h) (Or.inl ⟨by rfl, ?_⟩) hHeld ?_
      · intro w hSw
        obtain ⟨s1, s2, s3, s4, -⟩ := hSw
        go_simp
      try simp only [Act.put, List.getElem_toArray, List.getElem_cons_zero, List.getElem_cons_succ, List.setIfInBounds_toArray, List.set_cons_zero, List.set_cons_succ]
      refine wpAnyH_take (i := 3) (v := (S x)) rfl (by kernel_rfl) (by kernel_rfl) (by kernel_rfl) (fun _ _ _ h => h) (Or.inl ⟨by rfl, ?_⟩) hHeld ?_
      · intro w hSw
        obtain ⟨s1, s2, s3, s4, -⟩ := hSw
        go_simp
      try simp only [Act.put, List.getElem_toArray, List.getElem_cons_zero, List.getElem_cons_succ, List.setIfInBounds_toArray, List.set_cons_zero, List.set_cons_succ]
      refine wpAnyH_take (i := 4) (v := (.pointer (some ⟨w.heap.size + 1, 1, none⟩))) rfl (by kernel_rfl) (by kernel_rfl) (by kernel_rfl) (fun _ _ _ h => h) (Or.inl ⟨by rfl, ?_⟩) hHeld ?_
      · intro w hSw
        obtain ⟨s1, s2, s3, s4, -⟩ := hSw
        go_simp
      try simp only [Act.put, List.getElem_toArray, List.getElem_cons_zero, List.getElem_cons_succ, List.setIfInBounds_toArray, List.set_cons_zero, List.set_cons_succ]
      refine wpAnyH_take (i := 5) (v := (S y)) rfl (by kernel_rfl) (by kernel_rfl) (by kernel_rfl) (fun _ _ _ h => h) (Or.inl ⟨by rfl, ?_⟩) hHeld ?_
      · intro w hSw
        obtain ⟨s1, s2, s3, s4, -⟩ := hSw
        go_simp
      try simp only [Act.put, List.getElem_toArray, List.getElem_cons_zero, List.getElem_cons_succ, List.setIfInBounds_toArray, List.set_cons_zero, List.set_cons_succ]
      refine wpAnyH_take (i := 6) (v := (.int .u8 c.toNat)) rfl (by kernel_rfl) (by kernel_rfl) (by kernel_rfl) (fun _ _ _ h => h) (Or.inl ⟨by rfl, ?_⟩) hHeld ?_
      · intro w hSw
        obtain ⟨s1, s2, s3, s4, -⟩ := hSw
        go_simp
      try simp only [Act.put, List.getElem_toArray, List.getElem_cons_zero, List.getElem_cons_succ, List.setIfInBounds_toArray, List.set_cons_zero, List.set_cons_succ]
      refine wpAnyH_ready (rs := [7, 13]) (by kernel_rfl) (by simp) (AllReadyH.cons rfl (fun K hK => ?_) (AllReadyH.cons rfl (fun K hK => ?_) AllReadyH.nil))
      · go_simp
        refine (HMix.out _).mono ?_
        rintro e w4 ⟨rfl, hc1⟩
        have T4 := hHeld.2.2.2.2.quiet hc1
        refine hK.out _ _ T4.said (fun hHeld => ?_)
        clear hK K
        try simp only [Act.put, List.getElem_toArray, List.getElem_cons_zero, List.getElem_cons_succ, List.setIfInBounds_toArray, List.set_cons_zero, List.set_cons_succ]
        refine wpAnyH_ready (rs := [8, 13]) (by kernel_rfl) (by simp) (AllReadyH.cons rfl (fun K hK => ?_) (AllReadyH.cons rfl (fun K hK => ?_) AllReadyH.nil))
        · go_simp
          refine (HD.out _).mono ?_
          rintro e w5 ⟨rfl, hc2⟩
          have T5 := hHeld.2.2.2.2.quiet hc2
          refine hK.out _ _ T5.said (fun hHeld => ?_)
          clear hK K
          try simp only [Act.put, List.getElem_toArray, List.getElem_cons_zero, List.getElem_cons_succ, List.setIfInBounds_toArray, List.set_cons_zero, List.set_cons_succ]
          refine wpAnyH_take (i := 9) (v := (.tuple #[.agg (mcells (dcM f X)), .int .u8 (dcK f X), .int .i64 0])) rfl (by kernel_rfl) (by kernel_rfl) (by kernel_rfl) (fun _ _ _ h => h) (Or.inl ⟨by rfl, ?_⟩) hHeld ?_
          · intro w hSw
            obtain ⟨s1, s2, s3, s4, -⟩ := hSw
            go_simp
          try simp only [Act.put, List.getElem_toArray, List.getElem_cons_zero, List.getElem_cons_succ, List.setIfInBounds_toArray, List.set_cons_zero, List.set_cons_succ]
          refine wpAnyH_take (i := 10) (v := (.agg (mcells (dcM f X)))) rfl (by kernel_rfl) (by kernel_rfl) (by kernel_rfl) (fun _ _ _ h => h) (Or.inl ⟨by rfl, ?_⟩) hHeld ?_
          · intro w hSw
            obtain ⟨s1, s2, s3, s4, -⟩ := hSw
            go_simp
          try simp only [Act.put, List.getElem_toArray, List.getElem_cons_zero, List.getElem_cons_succ, List.setIfInBounds_toArray, List.set_cons_zero, List.set_cons_succ]
          refine wpAnyH_take (i := 11) (v := (.int .u8 (dcK f X))) rfl (by kernel_rfl) (by kernel_rfl) (by kernel_rfl) (fun _ _ _ h => h) (Or.inl ⟨by rfl, ?_⟩) hHeld ?_
          · intro w hSw
            obtain ⟨s1, s2, s3, s4, -⟩ := hSw
            go_simp
          try simp only [Act.put, List.getElem_toArray, List.getElem_cons_zero, List.getElem_cons_succ, List.setIfInBounds_toArray, List.set_cons_zero, List.set_cons_succ]
          refine wpAnyH_take (i := 12) (v := (.int .i64 0)) rfl (by kernel_rfl) (by kernel_rfl) (by kernel_rfl) (fun _ _ _ h => h) (Or.inl ⟨by rfl, ?_⟩) hHeld ?_
          · intro w hSw
            obtain ⟨s1, s2, s3, s4, -⟩ := hSw
            go_simp
          try simp only [Act.put, List.getElem_toArray, List.getElem_cons_zero, List.getElem_cons_succ, List.setIfInBounds_toArray, List.set_cons_zero, List.set_cons_succ]
          refine wpAnyH_ready (rs := [13]) (by kernel_rfl) (by simp) (AllReadyH.cons rfl (fun K hK => ?_) AllReadyH.nil)
          go_simp
          have hc0 := (Chg.refl (fun _ => False) w5).alloc (.cells #[.int .u64 0, .int .u32 0, .int .u8 0, .int .u8 0, .int .u8 0, .int .u8 0, .int .u8 0, .int .u8 0, .int .u8 0, .int .u8 0, .int .u8 0, .int .u8 0, .int .u8 0, .int .u8 0, .int .u8 0, .int .u8 0, .int .u8 0, .int .u8 0, .int .u8 0, .int .u8 0, .int .u8 0, .int .u8 0, .int .u8 0, .int .u8 0, .int .u8 0, .int .u8 0, .int .u8 0, .int .u8 0, .int .u8 0, .int .u8 0, .int .u8 0, .int .u8 0, .int .u8 0, .int .u8 0, .int .u64 0, .int .u64 0, .int .u32 0, .int .u32 0] 31)
          have Ta := hHeld.2.2.2.2.quiet hc0
          have hst2 := hst w5
          refine hK.out _ _ Ta.said (fun hHeld => ?_)
          clear hK K
          try simp only [Act.put, List.getElem_toArray, List.getElem_cons_zero, List.getElem_cons_succ, List.setIfInBounds_toArray, List.set_cons_zero, List.set_cons_succ]
          refine wpAnyH_ready (rs := [14]) (by kernel_rfl) (by simp) (AllReadyH.cons rfl (fun K hK => ?_) AllReadyH.nil)
          go_simp
          have Tb := T5.quiet ((Chg.refl (fun _ => False) w5).alloc (.cells (mcells (dcM f X)) 31))
          have kb := Blk.new w5 31 (mcells (dcM f X))
          refine hK.out _ _ Tb.said (fun hHeld => ?_)
          clear hK K
          try simp only [Act.put, List.getElem_toArray, List.getElem_cons_zero, List.getElem_cons_succ, List.setIfInBounds_toArray, List.set_cons_zero, List.set_cons_succ]
          refine wpAnyH_take (i := 15) (v := (.int .u8 (dcK f X))) rfl (by kernel_rfl) (by kernel_rfl) (by kernel_rfl) (fun _ _ _ h => h) (Or.inl ⟨by rfl, ?_⟩) hHeld ?_
          · intro w hSw
            obtain ⟨s1, s2, s3, s4, -⟩ := hSw
            go_simp
          try simp only [Act.put, List.getElem_toArray, List.getElem_cons_zero, List.getElem_cons_succ, List.setIfInBounds_toArray, List.set_cons_zero, List.set_cons_succ]
          refine wpAnyH_take (i := 16) (v := (.int .i64 0)) rfl (by kernel_rfl) (by kernel_rfl) (by kernel_rfl) (fun _ _ _ h => h) (Or.inl ⟨by rfl, ?_⟩) hHeld ?_
          · intro w hSw
            obtain ⟨s1, s2, s3, s4, -⟩ := hSw
            go_simp
          try simp only [Act.put, List.getElem_toArray, List.getElem_cons_zero, List.getElem_cons_succ, List.setIfInBounds_toArray, List.set_cons_zero, List.set_cons_succ]
          refine wpAnyH_done (by kernel_rfl) ?_ _
          go_wp2_with fail
          go_meet
          exact ⟨_, rfl, rfl, rfl, Tb, kb⟩
        · go_simp
          have hc0 := (Chg.refl (fun _ => False) w4).alloc (.cells #[.int .u64 0, .int .u32 0, .int .u8 0, .int .u8 0, .int .u8 0, .int .u8 0, .int .u8 0, .int .u8 0, .int .u8 0, .int .u8 0, .int .u8 0, .int .u8 0, .int .u8 0, .int .u8 0, .int .u8 0, .int .u8 0, .int .u8 0, .int .u8 0, .int .u8 0, .int .u8 0, .int .u8 0, .int .u8 0, .int .u8 0, .int .u8 0, .int .u8 0, .int .u8 0, .int .u8 0, .int .u8 0, .int .u8 0, .int .u8 0, .int .u8 0, .int .u8 0, .int .u8 0, .int .u8 0, .int .u64 0, .int .u64 0, .int .u32 0, .int .u32 0] 31)
          have Ta := hHeld.2.2.2.2.quiet hc0
          have kz : Blk (w4.alloc (.cells (mcells Mt.zero) 31)) w4.heap.size 31 (mcells Mt.zero) := Blk.new w4 31 (mcells Mt.zero)
          refine hK.out _ _ Ta.said (fun hHeld => ?_)
          clear hK K
          try simp only [Act.put, List.getElem_toArray, List.getElem_cons_zero, List.getElem_cons_succ, List.setIfInBounds_toArray, List.set_cons_zero, List.set_cons_succ]
          refine wpAnyH_ready (rs := [8]) (by kernel_rfl) (by simp) (AllReadyH.cons rfl (fun K hK => ?_) AllReadyH.nil)
          go_simp
          refine (HD.out _).mono ?_
          rintro e w5 ⟨rfl, hc2⟩
          have T5 := hHeld.2.2.2.2.quiet hc2
          have kz := kz.chg hc2 (fun h => h)
          refine hK.out _ _ T5.said (fun hHeld => ?_)
          clear hK K
          try simp only [Act.put, List.getElem_toArray, List.getElem_cons_zero, List.getElem_cons_succ, List.setIfInBounds_toArray, List.set_cons_zero, List.set_cons_succ]
          refine wpAnyH_take (i := 9) (v := (.tuple #[.agg (mcells (dcM f X)), .int .u8 (dcK f X), .int .i64 0])) rfl (by kernel_rfl) (by kernel_rfl) (by kernel_rfl) (fun _ _ _ h => h) (Or.inl ⟨by rfl, ?_⟩) hHeld ?_
          · intro w hSw
            obtain ⟨s1, s2, s3, s4, -⟩ := hSw
            go_simp
          try simp only [Act.put, List.getElem_toArray, List.getElem_cons_zero, List.getElem_cons_succ, List.setIfInBounds_toArray, List.set_cons_zero, List.set_cons_succ]
          refine wpAnyH_take (i := 10) (v := (.agg (mcells (dcM f X)))) rfl (by kernel_rfl) (by kernel_rfl) (by kernel_rfl) (fun _ _ _ h => h) (Or.inl ⟨by rfl, ?_⟩) hHeld ?_
          · intro w hSw
            obtain ⟨s1, s2, s3, s4, -⟩ := hSw
            go_simp
          try simp only [Act.put, List.getElem_toArray, List.getElem_cons_zero, List.getElem_cons_succ, List.setIfInBounds_toArray, List.set_cons_zero, List.set_cons_succ]
          refine wpAnyH_take (i := 11) (v := (.int .u8 (dcK f X))) rfl (by kernel_rfl) (by kernel_rfl) (by kernel_rfl) (fun _ _ _ h => h) (Or.inl ⟨by rfl, ?_⟩) hHeld ?_
          · intro w hSw
            obtain ⟨s1, s2, s3, s4, -⟩ := hSw
            go_simp
          try simp only [Act.put, List.getElem_toArray, List.getElem_cons_zero, List.getElem_cons_succ, List.setIfInBounds_toArray, List.set_cons_zero, List.set_cons_succ]
          refine wpAnyH_take (i := 12) (v := (.int .i64 0)) rfl (by kernel_rfl) (by kernel_rfl) (by kernel_rfl) (fun _ _ _ h => h) (Or.inl ⟨by rfl, ?_⟩) hHeld ?_
          · intro w hSw
            obtain ⟨s1, s2, s3, s4, -⟩ := hSw
            go_simp
          try simp only [Act.put, List.getElem_toArray, List.getElem_cons_zero, List.getElem_cons_succ, List.setIfInBounds_toArray, List.set_cons_zero, List.set_cons_succ]
          refine wpAnyH_ready (rs := [14]) (by kernel_rfl) (by simp) (AllReadyH.cons rfl (fun K hK => ?_) AllReadyH.nil)
          have hst3 := stM_of kz (mcells_size _ rfl) (dcM f X) hmX.out
          have Tb := T5.row w4.heap.size kz.lt (by have h4 := T4.fresh; omega) (mcells (dcM f X))
          have kb := kz.setRow (mcells (dcM f X))
          go_simp
          refine hK.out _ _ Tb.said (fun hHeld => ?_)
          clear hK K
          try simp only [Act.put, List.getElem_toArray, List.getElem_cons_zero, List.getElem_cons_succ, List.setIfInBounds_toArray, List.set_cons_zero, List.set_cons_succ]
          refine wpAnyH_take (i := 15) (v := (.int .u8 (dcK f X))) rfl (by kernel_rfl) (by kernel_rfl) (by kernel_rfl) (fun _ _ _ h => h) (Or.inl ⟨by rfl, ?_⟩) hHeld ?_
          · intro w hSw
            obtain ⟨s1, s2, s3, s4, -⟩ := hSw
            go_simp
          try simp only [Act.put, List.getElem_toArray, List.getElem_cons_zero, List.getElem_cons_succ, List.setIfInBounds_toArray, List.set_cons_zero, List.set_cons_succ]
          refine wpAnyH_take (i := 16) (v := (.int .i64 0)) rfl (by kernel_rfl) (by kernel_rfl) (by kernel_rfl) (fun _ _ _ h => h) (Or.inl ⟨by rfl, ?_⟩) hHeld ?_
          · intro w hSw
            obtain ⟨s1, s2, s3, s4, -⟩ := hSw
            go_simp
          try simp only [Act.put, List.getElem_toArray, List.getElem_cons_zero, List.getElem_cons_succ, List.setIfInBounds_toArray, List.set_cons_zero, List.set_cons_succ]
          refine wpAnyH_done (by kernel_rfl) ?_ _
          go_wp2_with fail
          go_meet
          exact ⟨_, rfl, rfl, rfl, Tb, kb⟩
      · go_simp
        have hc0 := (Chg.refl (fun _ => False) wz.drew).alloc (.cells #[.int .u64 0, .int .u32 0, .int .u8 0, .int .u8 0, .int .u8 0, .int .u8 0, .int .u8 0, .int .u8 0, .int .u8 0, .int .u8 0, .int .u8 0, .int .u8 0, .int .u8 0, .int .u8 0, .int .u8 0, .int .u8 0, .int .u8 0, .int .u8 0, .int .u8 0, .int .u8 0, .int .u8 0, .int .u8 0, .int .u8 0, .int .u8 0, .int .u8 0, .int .u8 0, .int .u8 0, .int .u8 0, .int .u8 0, .int .u8 0, .int .u8 0, .int .u8 0, .int .u8 0, .int .u8 0, .int .u64 0, .int .u64 0, .int .u32 0, .int .u32 0] 31)
        have Ta := hHeld.2.2.2.2.quiet hc0
        have kz : Blk (wz.drew.alloc (.cells (mcells Mt.zero) 31)) wz.heap.size 31 (mcells Mt.zero) := Blk.new wz.drew 31 (mcells Mt.zero)
        refine hK.out _ _ Ta.said (fun hHeld => ?_)
        clear hK K
        try simp only [Act.put, List.getElem_toArray, List.getElem_cons_zero, List.getElem_cons_succ, List.setIfInBounds_toArray, List.set_cons_zero, List.set_cons_succ]
        refine wpAnyH_ready (rs := [7]) (by kernel_rfl) (by simp) (AllReadyH.cons rfl (fun K hK => ?_) AllReadyH.nil)
        go_simp
        refine (HMix.out _).mono ?_
        rintro e w4 ⟨rfl, hc1⟩
        have T4 := hHeld.2.2.2.2.quiet hc1
        have kz := kz.chg hc1 (fun h => h)
        refine hK.out _ _ T4.said (fun hHeld => ?_)
        clear hK K
        try simp only [Act.put, List.getElem_toArray, List.getElem_cons_zero, List.getElem_cons_succ, List.setIfInBounds_toArray, List.set_cons_zero, List.set_cons_succ]
        refine wpAnyH_ready (rs := [8]) (by kernel_rfl) (by simp) (AllReadyH.cons rfl (fun K hK => ?_) AllReadyH.nil)
        go_simp
        refine (HD.out _).mono ?_
        rintro e w5 ⟨rfl, hc2⟩
        have T5 := hHeld.2.2.2.2.quiet hc2
        have kz := kz.chg hc2 (fun h => h)
        refine hK.out _ _ T5.said (fun hHeld => ?_)
        clear hK K
        try simp only [Act.put, List.getElem_toArray, List.getElem_cons_zero, List.getElem_cons_succ, List.setIfInBounds_toArray, List.set_cons_zero, List.set_cons_succ]
        refine wpAnyH_take (i := 9) (v := (.tuple #[.agg (mcells (dcM f X)), .int .u8 (dcK f X), .int .i64 0])) rfl (by kernel_rfl) (by kernel_rfl) (by kernel_rfl) (fun _ _ _ h => h) (Or.inl ⟨by rfl, ?_⟩) hHeld ?_
        · intro w hSw
          obtain ⟨s1, s2, s3, s4, -⟩ := hSw
          go_simp
        try simp only [Act.put, List.getElem_toArray, List.getElem_cons_zero, List.getElem_cons_succ, List.setIfInBounds_toArray, List.set_cons_zero, List.set_cons_succ]
        refine wpAnyH_take (i := 10) (v := (.agg (mcells (dcM f X)))) rfl (by kernel_rfl) (by kernel_rfl) (by kernel_rfl) (fun _ _ _ h => h) (Or.inl ⟨by rfl, ?_⟩) hHeld ?_
        · intro w hSw
          obtain ⟨s1, s2, s3, s4, -⟩ := hSw
          go_simp
        try simp only [Act.put, List.getElem_toArray, List.getElem_cons_zero, List.getElem_cons_succ, List.setIfInBounds_toArray, List.set_cons_zero, List.set_cons_succ]
        refine wpAnyH_take (i := 11) (v := (.int .u8 (dcK f X))) rfl (by kernel_rfl) (by kernel_rfl) (by kernel_rfl) (fun _ _ _ h => h) (Or.inl ⟨by rfl, ?_⟩) hHeld ?_
        · intro w hSw
          obtain ⟨s1, s2, s3, s4, -⟩ := hSw
          go_simp
        try simp only [Act.put, List.getElem_toArray, List.getElem_cons_zero, List.getElem_cons_succ, List.setIfInBounds_toArray, List.set_cons_zero, List.set_cons_succ]
        refine wpAnyH_take (i := 12) (v := (.int .i64 0)) rfl (by kernel_rfl) (by kernel_rfl) (by kernel_rfl) (fun _ _ _ h => h) (Or.inl ⟨by rfl, ?_⟩) hHeld ?_
        · intro w hSw
          obtain ⟨s1, s2, s3, s4, -⟩ := hSw
          go_simp
        try simp only [Act.put, List.getElem_toArray, List.getElem_cons_zero, List.getElem_cons_succ, List.setIfInBounds_toArray, List.set_cons_zero, List.set_cons_succ]
        refine wpAnyH_ready (rs := [14]) (by kernel_rfl) (by simp) (AllReadyH.cons rfl (fun K hK => ?_) AllReadyH.nil)
        have hst3 := stM_of kz (mcells_size _ rfl) (dcM f X) hmX.out
        have Tb := T5.row wz.heap.size kz.lt (by have h4 := hx0; omega) (mcells (dcM f X))
        have kb := kz.setRow (mcells (dcM f X))
        go_simp
        refine hK.out _ _ Tb.said (fun hHeld => ?_)
        clear hK K
        try simp only [Act.put, List.getElem_toArray, List.getElem_cons_zero, List.getElem_cons_succ, List.setIfInBounds_toArray, List.set_cons_zero, List.set_cons_succ]
        refine wpAnyH_take (i := 15) (v := (.int .u8 (dcK f X))) rfl (by kernel_rfl) (by kernel_rfl) (by kernel_rfl) (fun _ _ _ h => h) (Or.inl ⟨by rfl, ?_⟩) hHeld ?_
        · intro w hSw
          obtain ⟨s1, s2, s3, s4, -⟩ := hSw
          go_simp
        try simp only [Act.put, List.getElem_toArray, List.getElem_cons_zero, List.getElem_cons_succ, List.setIfInBounds_toArray, List.set_cons_zero, List.set_cons_succ]
        refine wpAnyH_take (i := 16) (v := (.int .i64 0)) rfl (by kernel_rfl) (by kernel_rfl) (by kernel_rfl) (fun _ _ _ h => h) (Or.inl ⟨by rfl, ?_⟩) hHeld ?_
        · intro w hSw
          obtain ⟨s1, s2, s3, s4, -⟩ := hSw
          go_simp
        try simp only [Act.put, List.getElem_toArray, List.getElem_cons_zero, List.getElem_cons_succ, List.setIfInBounds_toArray, List.set_cons_zero, List.set_cons_succ]
        refine wpAnyH_done (by kernel_rfl) ?_ _
        go_wp2_with fail
        go_meet
        exact ⟨_, rfl, rfl, rfl, Tb, kb⟩
    case rest =>
    obtain ⟨g, rfl, rfl, rfl, T, kb⟩ := hcut
    have ha := T.a
    have hb := T.b
    have C := T.chg
    have hgm := guard_meta
    have dX := dc_yes Hft.out
    have dx := dc_yes Hfit.out.1
    have dy := dc_yes Hfit.out.2
    rw [Hs.out] at dX
    clear hst
    cases hmb : mixb c.toNat 0
    · rw [hmb, if_neg (by simp), ← dx.1, ← dx.2.1] at dX
      obtain ⟨e1, e2, -⟩ := dX
      rw [e1] at kb
      rw [e2]
      have heq := fun w => eql_meta (dcM f x) (dcM f x) hmx.out hmx.out w
      rw [decide_eq_true rfl] at heq
      have hk := intBeq2 (dcK f x)
      have l1 := ldM_of kb hmx.out
      have l2 := ldM_of ha hmx.out
      clear e1 e2 dx dy hmb
      go_wp2_with fail
      go_ret
      exact ⟨rfl, C⟩
    · rw [hmb, if_pos rfl, ← dy.1, ← dy.2.1] at dX
      obtain ⟨e1, e2, -⟩ := dX
      rw [e1] at kb
      rw [e2]
      have heq := fun w => eql_meta (dcM f y) (dcM f x) hmy.out hmx.out w
      have heq2 := fun w => eql_meta (dcM f y) (dcM f y) hmy.out hmy.out w
      rw [decide_eq_true rfl] at heq2
      have hk := intBeq2 (dcK f y)
      have l1 := ldM_of kb hmy.out
      have l2 := ldM_of ha hmx.out
      have l3 := ldM_of hb hmy.out
      clear e1 e2 dx dy hmb
      by_cases h1 : dcM f y = dcM f x
      · rw [decide_eq_true h1] at heq
        clear h1
        cases h2 : ((dcK f y : Int) == (dcK f x : Int))
        · go_wp2_with fail
          go_ret
          exact ⟨rfl, C⟩
        · go_wp2_with fail
          go_ret
          exact ⟨rfl, C⟩
      · rw [decide_eq_false h1] at heq
        clear h1
        go_wp2_with fail
        go_ret
        exact ⟨rfl, C⟩
  · have hE : (dcE f x = 2) ∨ (dcE f x = 0 ∧ dcE f y = 2) := by
      rcases key (Mt.fit f x = true) with h | h
      · exact .inr ⟨(dcd_fit h).2.2, dc_e (fun h' => hfit ⟨h, h'⟩)⟩
      · exact .inl (dc_e h)
    clear hfit key
    rcases hE with e1 | ⟨e1, e2⟩
    · rw [e1] at HX
      generalize dcE f y = ey at HY
      clear e1
      go_enter Tryd.func9, Tryd.ntmps9
      go_wp2_with fail
      refine (awake_calls _).mono ?_
      rintro e w1 ⟨rfl, hc⟩
      have C := C.trans hc
      have kf := kf.chg hc (fun h => h)
      have ks := ks.chg hc (fun h => h)
      clear hc
      have f0 : w1.cell? ⟨w.heap.size, 0, none⟩ = some (.int .i64 f.page) := by rw [kf.cell]; rfl
      have f1 : w1.cell? ⟨w.heap.size, 1, none⟩ = some (.int .i64 f.width) := by rw [kf.cell]; rfl
      have s0 : w1.cell? ⟨w.heap.size + 1, 0, none⟩ = some (S x) := by rw [ks.cell]; rfl
      go_wp2_with fail
      refine (HX.out _).mono ?_
      rintro e w2 ⟨rfl, hc⟩
      obtain ⟨wy, st1, k1, hz⟩ := one_new w2 (dcM f x) hmx.out
      have C := (C.trans hc).trans hz
      have kf := (kf.chg hc (fun h => h)).chg hz (fun h => h)
      have ks := (ks.chg hc (fun h => h)).chg hz (fun h => h)
      clear hc hz f0 f1 s0
      have f0 : wy.cell? ⟨w.heap.size, 0, none⟩ = some (.int .i64 f.page) := by rw [kf.cell]; rfl
      have f1 : wy.cell? ⟨w.heap.size, 1, none⟩ = some (.int .i64 f.width) := by rw [kf.cell]; rfl
      have s0 : wy.cell? ⟨w.heap.size + 1, 1, none⟩ = some (S y) := by rw [ks.cell]; rfl
      go_wp2_with fail
      refine (HY.out _).mono ?_
      rintro e w3 ⟨rfl, hc⟩
      obtain ⟨wz, st2, k2, hz⟩ := one_new w3 (dcM f y) hmy.out
      have C := (C.trans hc).trans hz
      clear hc hz f0 f1 s0 kf ks k1 k2 st1
      go_wp2_with fail
      go_ret
      exact ⟨rfl, C⟩
    · rw [e1] at HX
      rw [e2] at HY
      clear e1 e2
      go_enter Tryd.func9, Tryd.ntmps9
      go_wp2_with fail
      refine (awake_calls _).mono ?_
      rintro e w1 ⟨rfl, hc⟩
      have C := C.trans hc
      have kf := kf.chg hc (fun h => h)
      have ks := ks.chg hc (fun h => h)
      clear hc
      have f0 : w1.cell? ⟨w.heap.size, 0, none⟩ = some (.int .i64 f.page) := by rw [kf.cell]; rfl
      have f1 : w1.cell? ⟨w.heap.size, 1, none⟩ = some (.int .i64 f.width) := by rw [kf.cell]; rfl
      have s0 : w1.cell? ⟨w.heap.size + 1, 0, none⟩ = some (S x) := by rw [ks.cell]; rfl
      go_wp2_with fail
      refine (HX.out _).mono ?_
      rintro e w2 ⟨rfl, hc⟩
      obtain ⟨wy, st1, k1, hz⟩ := one_new w2 (dcM f x) hmx.out
      have C := (C.trans hc).trans hz
      have kf := (kf.chg hc (fun h => h)).chg hz (fun h => h)
      have ks := (ks.chg hc (fun h => h)).chg hz (fun h => h)
      clear hc hz f0 f1 s0
      have f0 : wy.cell? ⟨w.heap.size, 0, none⟩ = some (.int .i64 f.page) := by rw [kf.cell]; rfl
      have f1 : wy.cell? ⟨w.heap.size, 1, none⟩ = some (.int .i64 f.width) := by rw [kf.cell]; rfl
      have s0 : wy.cell? ⟨w.heap.size + 1, 1, none⟩ = some (S y) := by rw [ks.cell]; rfl
      go_wp2_with fail
      refine (HY.out _).mono ?_
      rintro e w3 ⟨rfl, hc⟩
      obtain ⟨wz, st2, k2, hz⟩ := one_new w3 (dcM f y) hmy.out
      have C := (C.trans hc).trans hz
      clear hc hz f0 f1 s0 kf ks k1 k2 st1
      go_wp2_with fail
      go_ret
      exact ⟨rfl, C⟩
end Go.Proofs.YtlhdbkbgedlmnaaDoor
