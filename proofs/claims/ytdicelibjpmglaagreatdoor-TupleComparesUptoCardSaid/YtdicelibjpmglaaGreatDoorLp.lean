/-
  Layer 3: the document's rows, Order, Compare.
-/
import Derived.Test.YtdicelibjpmglaaGreatDoorLo
namespace Go.Proofs.YtdicelibjpmglaaGreatDoor
open Go.RowKit
set_option linter.unusedVariables false
set_option linter.unusedSimpArgs false
attribute [local go_sem] run_store_float
open Tp (It)

set_option maxHeartbeats 8000000 in
set_option maxRecDepth 100000 in
theorem rrows_calls {w0 : World} {B : Nat} {v : Value} {l : List It} (hrow : Row w0 B v l) : ∀ {v' : Value} {l' : List It} (hrow' : Row w0 B v' l') (w : World), Tp.okB l = true → Tp.okB l' = true → Keep w0 B w →
    Calls Tryz.prog 46 #[v, v'] w fun e w' => e = .returned (.int .i64 (Tp.side l l')) ∧ Chg (fun _ => False) w w' := by
  induction hrow with
  | nil A0 cap0 hcap0 =>
    intro v' l' hrow' w hok hok' hk
    obtain ⟨A', cap', rfl, hc1', hc2'⟩ := hrow'.slice
    have Hrow' := Lib.hid hrow'
    clear hrow'
    go_enter Tryz.func46, Tryz.ntmps46
    go_wp2_with fail
    go_loopw [5] (fun jv wr => jv = .int .i64 0 ∧ wr = w) (fun _ _ => 0)
    case atStart => exact ⟨rfl, rfl⟩
    case round =>
      obtain ⟨rfl, rfl⟩ := hrel
      go_wp2_with fail
      refine (sign_calls _ _ _).mono ?_
      rintro e w' ⟨rfl, rfl⟩
      go_wp2_with fail
      go_ret
      exact ⟨ret_int (by rw [Tp.side_nil, ← Tp.sgn_cmpI]; first | rfl | simp), Chg.refl _ _⟩
  | mk gr off cap l vs hgr hl hcap hc1 hin hcells hr ih =>
    intro v' l' hrow' w hok hok' hk
    obtain ⟨A', cap', rfl, hc1', hc2'⟩ := hrow'.slice
    have Hrow' := Lib.hid hrow'
    clear hrow'
    go_enter Tryz.func46, Tryz.ntmps46
    go_wp2_with fail
    go_loopw [5] (fun jv wr => ∃ j : Nat, j ≤ min l.length l'.length ∧ jv = .int .i64 j ∧ Tp.side l l' = Tp.side (l.drop j) (l'.drop j) ∧ Chg (fun _ => False) w wr) (fun jv _ => l.length - (intOf jv).toNat)
    case atStart => exact ⟨0, by omega, rfl, by simp, Chg.refl _ _⟩
    case round =>
      obtain ⟨j, hj, rfl, hlk, hc'⟩ := hrel
      rcases Nat.lt_or_ge j (min l.length l'.length) with hlt | hge
      · obtain ⟨⟨xk, xb, xn, xf, xt, xl⟩, hx⟩ : ∃ x, l[j]? = some x := ⟨_, List.getElem?_eq_getElem (by omega)⟩
        obtain ⟨xv, hxv⟩ : ∃ v, vs[j]? = some v := ⟨_, List.getElem?_eq_getElem (by omega)⟩
        obtain ⟨⟨yk, yb, yn, yf, yt, yl⟩, hy⟩ : ∃ x, l'[j]? = some x := ⟨_, List.getElem?_eq_getElem (by omega)⟩
        obtain ⟨gr', off', cap2, yv, hA', hgr', hin', hcells', hr'⟩ := Hrow'.out.get hy
        obtain ⟨rfl, -, rfl⟩ : A' = some ⟨gr', off', none⟩ ∧ True ∧ cap' = cap2 := by injection hA' with a1 a2 a3; exact ⟨a1, trivial, a3⟩
        have hin1 := hin xk xb xn xf xt xl (List.mem_of_getElem? hx)
        have hk' := hk.chg hc' (fun k hkB e => e)
        have cx : ∀ q u, (icells xk xb xn xf xt xv)[q]? = some u → wr.cell? ⟨gr, off + j * 6 + q, none⟩ = some u := fun q u hq => by
          rw [hk'.1 _ hgr]; exact hcells j xk xb xn xf xt xl xv hx hxv q u hq
        have cy : ∀ q u, (icells yk yb yn yf yt yv)[q]? = some u → wr.cell? ⟨gr', off' + j * 6 + q, none⟩ = some u := fun q u hq => by
          rw [hk'.1 _ hgr']; exact hcells' q u hq
        have c0 := cx 0 _ rfl
        have c1 := cx 1 _ rfl
        have c2 := cx 2 _ rfl
        have c3 := cx 3 _ rfl
        have c4 := cx 4 _ rfl
        have c5 := cx 5 _ rfl
        have d0 := cy 0 _ rfl
        have d1 := cy 1 _ rfl
        have d2 := cy 2 _ rfl
        have d3 := cy 3 _ rfl
        have d4 := cy 4 _ rfl
        have d5 := cy 5 _ rfl
        obtain ⟨A, xcap, rfl, hxc1, hxc2⟩ := (hr j xk xb xn xf xt xl xv hx hxv).slice
        obtain ⟨A2, ycap, rfl, hyc1, hyc2⟩ := hr'.slice
        rw [Nat.add_zero] at c0 d0
        have ok1 := Tp.okB_mem hok (List.mem_of_getElem? hx)
        have ok2 := Tp.okB_mem hok' (List.mem_of_getElem? hy)
        have hz : xk ≠ 2 → xk ≠ 3 → xk ≠ 4 → xk ≠ 5 → xk ≠ 6 → xk = yk → Tp.side xl yl = 0 := fun _ _ _ _ h6 he => by
          subst he
          rw [Tp.mayB_list ok1.1 h6, Tp.mayB_list ok2.1 h6]; simp [Tp.side]
        have HH := Lib.hid (fun w3 (hc3 : Chg (fun _ => False) wr w3) => rorder_of xk xb xn xf xt A xl.length xcap yk yb yn yf yt A2 yl.length ycap (Tp.side xl yl) hin1.k hin1.f hin'.f w3 hz
          (fun w4 hc4 => ih j xk xb xn xf xt xl _ hx hxv hr' w4 ok1.2 ok2.2 (hk'.chg (hc3.trans hc4) (fun k hkB e => e))))
        obtain ⟨o, ho⟩ : ∃ o, Tp.heldV xk xb xn xf xt yk yb yn yf yt (Tp.side xl yl) = o := ⟨_, rfl⟩
        rw [ho] at HH
        have hst : Tp.side l l' = if o ≠ 0 then o else Tp.side (l.drop (j + 1)) (l'.drop (j + 1)) := by
          rw [hlk, drop_get hx, drop_get hy, Tp.side_cons, ho]; rfl
        have Hst := Lib.hid hst
        have Hc' := Lib.hid hc'
        have b1 : j < l.length := by omega
        have b2 : j < l'.length := by omega
        have hj1 : decide ((j : Int) < (l.length : Int)) = true := by rw [decide_eq_true_iff]; omega
        have hj2 : decide ((j : Int) < (l'.length : Int)) = true := by rw [decide_eq_true_iff]; omega
        have Hlt := Lib.hid hlt
        clear hk hin hcells hr ih hx hxv hc' hl hlk hy hA' hin' hcells' hr' hin1 hk' cx cy hst ho hlt hj hz ok1 ok2 hok hok'
        go_upto_region 4 with fail
        go_region_with ((go_at_call 44); refine (HH.out _ (Chg.refl _ _).drew).mono ?_; rintro e w2 ⟨rfl, hc2⟩)
        all_goals
          have Hc2 := Lib.hid ((Hc'.out).drew.andThen hc2 (fun _ _ h => h))
          clear hc2
          by_cases ho : o = 0
          · subst ho
            have hst := Hst.out
            rw [if_neg (by simp)] at hst
            have Hst2 := Lib.hid hst
            clear hst
            go_wp2_with fail
            go_round
            case rel =>
              exact ⟨j + 1, by have := Hlt.out; omega, by go_num, Hst2.out, Hc2.out⟩
            case measure => simp [intOf]; omega
          · have ho2 : (o != 0) = true := by simpa using ho
            have ho3 : (o == 0) = false := by simpa using ho
            have hst := Hst.out
            rw [if_pos ho] at hst
            have Hst2 := Lib.hid hst
            clear hst ho
            go_wp2_with fail
            go_ret
            exact ⟨ret_int (by rw [Hst2.out]), Hc2.out⟩
      · have hje : j = min l.length l'.length := by omega
        have Hlk := Lib.hid (show Tp.side l l' = Tp.cmpI l.length l'.length by rw [hlk]; exact Tp.side_end hje)
        have Hc' := Lib.hid hc'
        clear hk hin hcells hr ih hc' hl hlk hok hok'
        by_cases hjl : j < l.length
        · have hj1 : decide ((j : Int) < (l.length : Int)) = true := by rw [decide_eq_true_iff]; omega
          have hj2 : decide ((j : Int) < (l'.length : Int)) = false := by rw [decide_eq_false_iff_not]; omega
          have hj3 : decide (j < l'.length) = false := by rw [decide_eq_false_iff_not]; omega
          clear hje hj hge
          go_wp2_with fail
          refine (sign_calls _ _ _).mono ?_
          rintro e w' ⟨rfl, rfl⟩
          go_wp2_with fail
          go_ret
          exact ⟨ret_int (by rw [Hlk.out, ← Tp.sgn_cmpI]; (try simp only [Int.ofNat_lt])), Hc'.out⟩
        · have hj1 : decide ((j : Int) < (l.length : Int)) = false := by rw [decide_eq_false_iff_not]; omega
          have hj3 : decide (j < l.length) = false := by rw [decide_eq_false_iff_not]; omega
          clear hje hj hge hjl
          go_wp2_with fail
          refine (sign_calls _ _ _).mono ?_
          rintro e w' ⟨rfl, rfl⟩
          go_wp2_with fail
          go_ret
          exact ⟨ret_int (by rw [Hlk.out, ← Tp.sgn_cmpI]; (try simp only [Int.ofNat_lt])), Hc'.out⟩

set_option maxHeartbeats 4000000 in
set_option maxRecDepth 100000 in
theorem rordr_calls {w0 : World} {B : Nat} {v v' : Value} {l l' : List It} (hrow : Row w0 B v l) (hrow' : Row w0 B v' l') (w : World) (hk : Keep w0 B w) (hs : Tp.sz l ≤ 1000000000000) (hs' : Tp.sz l' ≤ 1000000000000) :
    Calls Tryz.prog 26 #[v, v'] w fun e w' => e = .returned (.int .i64 (Tp.ord l l')) ∧ Chg (fun _ => False) w w' := by
  have C1 := Lib.hid (fun w2 (hc : Chg (fun _ => False) w w2) => rcheck_calls hrow w2 (hk.chg hc (fun k hkB e => e)) hs)
  have C2 := Lib.hid (fun w2 (hc : Chg (fun _ => False) w w2) => rcheck_calls hrow' w2 (hk.chg hc (fun k hkB e => e)) hs')
  have C3 := Lib.hid (fun (ok1 : Tp.okB l = true) (ok2 : Tp.okB l' = true) w2 (hc : Chg (fun _ => False) w w2) => rrows_calls hrow hrow' w2 ok1 ok2 (hk.chg hc (fun k hkB e => e)))
  obtain ⟨A, cap, rfl, -, -⟩ := hrow.slice
  obtain ⟨A', cap', rfl, -, -⟩ := hrow'.slice
  obtain ⟨x, hx⟩ : ∃ x, Tp.check l = x := ⟨_, rfl⟩
  obtain ⟨y, hy⟩ : ∃ y, Tp.check l' = y := ⟨_, rfl⟩
  have K1 := Lib.hid (fun h : x = 0 => (Tp.check_ok (hx.trans h)).2.2.1)
  have K2 := Lib.hid (fun h : y = 0 => (Tp.check_ok (hy.trans h)).2.2.1)
  rw [hx] at C1
  rw [hy] at C2
  have Ho := Lib.hid (show Tp.ord l l' = if x ≠ 0 ∨ y ≠ 0 then 0 else Tp.side l l' by unfold Tp.ord; rw [hx, hy])
  clear hrow hrow' hk hs hs' hx hy
  by_cases hx : x = 0
  · subst hx
    by_cases hy : y = 0
    · subst hy
      go_enter Tryz.func26, Tryz.ntmps26
      go_wp2_with fail
      refine (C1.out _ (Chg.refl _ _)).mono ?_
      rintro e w2 ⟨rfl, hc2⟩
      go_wp2_with fail
      refine (C2.out _ hc2).mono ?_
      rintro e w3 ⟨rfl, hc3⟩
      have hc4 := hc2.trans hc3
      go_wp2_with fail
      refine (C3.out (K1.out (by first | rfl | trivial)) (K2.out (by first | rfl | trivial)) _ hc4).mono ?_
      rintro e w5 ⟨rfl, hc5⟩
      go_wp2_with fail
      go_ret
      exact ⟨ret_int (by rw [Ho.out, if_neg (by simp)]), hc4.trans hc5⟩
    · have y1 : (y != 0) = true := by simpa using hy
      have y2 : (y == 0) = false := by simpa using hy
      have Hy := Lib.hid hy
      clear hy
      go_enter Tryz.func26, Tryz.ntmps26
      go_wp2_with fail
      refine (C1.out _ (Chg.refl _ _)).mono ?_
      rintro e w2 ⟨rfl, hc2⟩
      go_wp2_with fail
      refine (C2.out _ hc2).mono ?_
      rintro e w3 ⟨rfl, hc3⟩
      have hc4 := hc2.trans hc3
      go_wp2_with fail
      go_ret
      exact ⟨ret_int (by rw [Ho.out, if_pos (.inr Hy.out)]), hc4⟩
  · have x1 : (x != 0) = true := by simpa using hx
    have x2 : (x == 0) = false := by simpa using hx
    have Hx := Lib.hid hx
    clear hx
    go_enter Tryz.func26, Tryz.ntmps26
    go_wp2_with fail
    refine (C1.out _ (Chg.refl _ _)).mono ?_
    rintro e w2 ⟨rfl, hc2⟩
    go_wp2_with fail
    go_ret
    exact ⟨ret_int (by rw [Ho.out, if_pos (.inl Hx.out)]), hc2⟩

set_option maxHeartbeats 4000000 in
set_option maxRecDepth 100000 in
theorem rcompare_calls {w0 : World} {B : Nat} (k : Nat) (b : Bool) (n : Int) (f : Nat) (t : List UInt8) (v : Value) (ls : List It) (k' : Nat) (b' : Bool) (n' : Int) (f' : Nat) (t' : List UInt8) (v' : Value) (ls' : List It)
    (hi : InIt k n f t) (hi' : InIt k' n' f' t') (hrow : Row w0 B v ls) (hrow' : Row w0 B v' ls') (w : World) (hk : Keep w0 B w) (hs : Tp.sz [It.mk k b n f t ls] ≤ 1000000000000) (hs' : Tp.sz [It.mk k' b' n' f' t' ls'] ≤ 1000000000000) :
    Calls Tryz.prog 24 #[IV k b n f t v, IV k' b' n' f' t' v'] w fun e w' => e = .returned (.int .i64 (Tp.comp (.mk k b n f t ls) (.mk k' b' n' f' t' ls'))) ∧ Chg (fun _ => False) w w' := by
  have C1 := Lib.hid (fun w2 (g : Nat) (hc : Chg (fun _ => False) w w2) (hg : B ≤ g) (hb : Blk w2 g 40 #[.int .u8 k, .bool b, .int .i64 n, .float .f64 f, S t, v]) =>
    rcheck_calls (Row.one hb hi (hrow.of_keep (hk.chg hc (fun k hkB e => e))) hg) w2 (Keep.refl w2 _ hb.lt) hs)
  have C2 := Lib.hid (fun w2 (g : Nat) (hc : Chg (fun _ => False) w w2) (hg : B ≤ g) (hb : Blk w2 g 40 #[.int .u8 k', .bool b', .int .i64 n', .float .f64 f', S t', v']) =>
    rcheck_calls (Row.one hb hi' (hrow'.of_keep (hk.chg hc (fun k hkB e => e))) hg) w2 (Keep.refl w2 _ hb.lt) hs')
  obtain ⟨A, cap, hv, -, -⟩ := hrow.slice
  obtain ⟨A', cap', hv', -, -⟩ := hrow'.slice
  have C3 := Lib.hid (fun (ok1 : Tp.okB [It.mk k b n f t ls] = true) (ok2 : Tp.okB [It.mk k' b' n' f' t' ls'] = true) w2 (hc : Chg (fun _ => False) w w2) => rorder_of k b n f t A ls.length cap k' b' n' f' t' A' ls'.length cap' (Tp.side ls ls') hi.k hi.f hi'.f w2
    (fun _ _ _ _ h6 he => by
      subst he
      rw [Tp.mayB_list (Tp.okB_mem ok1 (List.mem_singleton.2 rfl)).1 h6, Tp.mayB_list (Tp.okB_mem ok2 (List.mem_singleton.2 rfl)).1 h6]; simp [Tp.side])
    (fun w4 hc4 => by rw [← hv, ← hv']; exact rrows_calls hrow hrow' w4 (Tp.okB_mem ok1 (List.mem_singleton.2 rfl)).2 (Tp.okB_mem ok2 (List.mem_singleton.2 rfl)).2 (hk.chg (hc.trans hc4) (fun k hkB e => e))))
  subst hv hv'
  have HB := Lib.hid hk.2
  obtain ⟨x, hx⟩ : ∃ x, Tp.check [It.mk k b n f t ls] = x := ⟨_, rfl⟩
  obtain ⟨y, hy⟩ : ∃ y, Tp.check [It.mk k' b' n' f' t' ls'] = y := ⟨_, rfl⟩
  have K1 := Lib.hid (fun h : x = 0 => (Tp.check_ok (hx.trans h)).2.2.1)
  have K2 := Lib.hid (fun h : y = 0 => (Tp.check_ok (hy.trans h)).2.2.1)
  rw [hx] at C1
  rw [hy] at C2
  have Ho := Lib.hid (show Tp.comp (.mk k b n f t ls) (.mk k' b' n' f' t' ls') = if x ≠ 0 ∨ y ≠ 0 then Tp.cmpI k k' else Tp.held (.mk k b n f t ls) (.mk k' b' n' f' t' ls') by unfold Tp.comp; rw [hx, hy]; rfl)
  clear hrow hrow' hk hs hs' hx hy hi hi'
  obtain ⟨o1, ho1⟩ : ∃ o1, o1 = Obj.cells #[.int .u8 k, .bool b, .int .i64 n, .float .f64 f, S t, .slice A ls.length cap] 40 := ⟨_, rfl⟩
  obtain ⟨o2, ho2⟩ : ∃ o2, o2 = Obj.cells #[.int .u8 k', .bool b', .int .i64 n', .float .f64 f', S t', .slice A' ls'.length cap'] 40 := ⟨_, rfl⟩
  have N1 := Lib.hid (((Blk.new w 40 #[.int .u8 k, .bool b, .int .i64 n, .float .f64 f, S t, .slice A ls.length cap]).alloc o2).alloc o1)
  have N2 := Lib.hid ((Blk.new' w o1 40 #[.int .u8 k', .bool b', .int .i64 n', .float .f64 f', S t', .slice A' ls'.length cap']).alloc o1)
  have N3 := Lib.hid (Blk.new2 w o1 o2 40 #[.int .u8 k, .bool b, .int .i64 n, .float .f64 f, S t, .slice A ls.length cap])
  subst ho1 ho2
  by_cases hx : x = 0
  · subst hx
    go_enter Tryz.func24, Tryz.ntmps24
    go_wp2_with fail
    refine (C1.out _ _ ((((Chg.refl _ w).alloc _).alloc _).alloc _) (by have := HB.out; omega) N3.out).mono ?_
    rintro e w2 ⟨rfl, hc2⟩
    have hc := ((((Chg.refl (fun _ => False) w).alloc _).alloc _).alloc _).trans hc2
    have b1 := N1.out.chg hc2 (fun h => h)
    have b2 := N2.out.chg hc2 (fun h => h)
    have q0 : w2.cell? ⟨w.heap.size + 1, 0, none⟩ = some (.int .u8 k') := by rw [b2.cell]; rfl
    have q1 : w2.cell? ⟨w.heap.size + 1, 1, none⟩ = some (.bool b') := by rw [b2.cell]; rfl
    have q2 : w2.cell? ⟨w.heap.size + 1, 2, none⟩ = some (.int .i64 n') := by rw [b2.cell]; rfl
    have q3 : w2.cell? ⟨w.heap.size + 1, 3, none⟩ = some (.float .f64 f') := by rw [b2.cell]; rfl
    have q4 : w2.cell? ⟨w.heap.size + 1, 4, none⟩ = some (S t') := by rw [b2.cell]; rfl
    have q5 : w2.cell? ⟨w.heap.size + 1, 5, none⟩ = some (.slice A' ls'.length cap') := by rw [b2.cell]; rfl
    have B1 := Lib.hid b1
    have B2 := Lib.hid b2
    have Hc := Lib.hid hc
    clear hc hc2 b1 b2
    go_wp2_with fail
    refine (C2.out _ _ ((Hc.out).alloc _) (by have := HB.out; have := (Hc.out).size; omega) (Blk.new w2 _ _)).mono ?_
    rintro e w3 ⟨rfl, hc3⟩
    have hc := ((Hc.out).alloc _).trans hc3
    have b1 := ((B1.out).alloc _).chg hc3 (fun h => h)
    have b2 := ((B2.out).alloc _).chg hc3 (fun h => h)
    have p0 : w3.cell? ⟨w.heap.size, 0, none⟩ = some (.int .u8 k) := by rw [b1.cell]; rfl
    have p1 : w3.cell? ⟨w.heap.size, 1, none⟩ = some (.bool b) := by rw [b1.cell]; rfl
    have p2 : w3.cell? ⟨w.heap.size, 2, none⟩ = some (.int .i64 n) := by rw [b1.cell]; rfl
    have p3 : w3.cell? ⟨w.heap.size, 3, none⟩ = some (.float .f64 f) := by rw [b1.cell]; rfl
    have p4 : w3.cell? ⟨w.heap.size, 4, none⟩ = some (S t) := by rw [b1.cell]; rfl
    have p5 : w3.cell? ⟨w.heap.size, 5, none⟩ = some (.slice A ls.length cap) := by rw [b1.cell]; rfl
    have r0 : w3.cell? ⟨w.heap.size + 1, 0, none⟩ = some (.int .u8 k') := by rw [b2.cell]; rfl
    have r1 : w3.cell? ⟨w.heap.size + 1, 1, none⟩ = some (.bool b') := by rw [b2.cell]; rfl
    have r2 : w3.cell? ⟨w.heap.size + 1, 2, none⟩ = some (.int .i64 n') := by rw [b2.cell]; rfl
    have r3 : w3.cell? ⟨w.heap.size + 1, 3, none⟩ = some (.float .f64 f') := by rw [b2.cell]; rfl
    have r4 : w3.cell? ⟨w.heap.size + 1, 4, none⟩ = some (S t') := by rw [b2.cell]; rfl
    have r5 : w3.cell? ⟨w.heap.size + 1, 5, none⟩ = some (.slice A' ls'.length cap') := by rw [b2.cell]; rfl
    have Hc3 := Lib.hid hc
    clear hc hc3 b1 b2 q0 q1 q2 q3 q4 q5
    by_cases hy : y = 0
    · subst hy
      go_wp2_with fail
      refine (C3.out (K1.out (by first | rfl | trivial)) (K2.out (by first | rfl | trivial)) _ Hc3.out).mono ?_
      rintro e w5 ⟨rfl, hc5⟩
      go_wp2_with fail
      go_ret
      exact ⟨ret_int (by rw [Ho.out, if_neg (by simp)]; rfl), (Hc3.out).trans hc5⟩
    · have y1 : (y != 0) = true := by simpa using hy
      have y2 : (y == 0) = false := by simpa using hy
      have Hy := Lib.hid hy
      clear hy
      go_wp2_with fail
      refine (sign_calls _ _ _).mono ?_
      rintro e w' ⟨rfl, rfl⟩
      go_wp2_with fail
      go_ret
      exact ⟨ret_int (by rw [Ho.out, if_pos (.inr Hy.out), ← Tp.sgn_cmpI]; (try simp only [Int.ofNat_lt])), Hc3.out⟩
  · have x1 : (x != 0) = true := by simpa using hx
    have x2 : (x == 0) = false := by simpa using hx
    have Hx := Lib.hid hx
    clear hx
    go_enter Tryz.func24, Tryz.ntmps24
    go_wp2_with fail
    refine (C1.out _ _ ((((Chg.refl _ w).alloc _).alloc _).alloc _) (by have := HB.out; omega) N3.out).mono ?_
    rintro e w2 ⟨rfl, hc2⟩
    have hc := ((((Chg.refl (fun _ => False) w).alloc _).alloc _).alloc _).trans hc2
    have b1 := N1.out.chg hc2 (fun h => h)
    have b2 := N2.out.chg hc2 (fun h => h)
    have p0 : w2.cell? ⟨w.heap.size, 0, none⟩ = some (.int .u8 k) := by rw [b1.cell]; rfl
    have q0 : w2.cell? ⟨w.heap.size + 1, 0, none⟩ = some (.int .u8 k') := by rw [b2.cell]; rfl
    have Hc := Lib.hid hc
    clear hc hc2 b1 b2
    go_wp2_with fail
    refine (sign_calls _ _ _).mono ?_
    rintro e w' ⟨rfl, rfl⟩
    go_wp2_with fail
    go_ret
    exact ⟨ret_int (by rw [Ho.out, if_pos (.inl Hx.out), ← Tp.sgn_cmpI]; (try simp only [Int.ofNat_lt])), Hc.out⟩
end Go.Proofs.YtdicelibjpmglaaGreatDoor
