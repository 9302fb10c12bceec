/-
  Layer 3: the program's held, side, Compare, Order.
-/
import Derived.Test.YtdicelibjpmglaaGreatDoorTh
import Derived.Test.YtdicelibjpmglaaGreatDoorTs
namespace Go.Proofs.YtdicelibjpmglaaGreatDoor
open Go.RowKit
set_option linter.unusedVariables false
set_option linter.unusedSimpArgs false
attribute [local go_sem] run_store_float
open Tp (It)

theorem cmpB_eq : ∀ (a b : List UInt8), Lib.compareBytes a b = Tp.cmpL a b
  | [], [] => by simp [Lib.compareBytes, Tp.cmpL]
  | [], _ :: _ => by simp [Lib.compareBytes, Tp.cmpL]
  | _ :: _, [] => by simp [Lib.compareBytes, Tp.cmpL]
  | a :: l, b :: m => by
    have := cmpB_eq l m
    simp only [Lib.compareBytes, Tp.cmpL, this, UInt8.lt_iff_toNat_lt]
theorem texts_calls (a b : List UInt8) (w : World) : Calls Tryz.prog 72 #[S a, S b] w fun e w' => e = .returned (.int .i64 (Tp.cmpL a b)) ∧ w' = w := by
  refine (Tryz.strings_Compare ⟨a.toArray⟩ ⟨b.toArray⟩ w).mono ?_
  rintro e w' ⟨rfl, rfl⟩
  exact ⟨ret_int (cmpB_eq a b), rfl⟩
theorem truth_q (b : Bool) (w : World) : Calls Tryz.prog 68 #[.bool b] w fun e w' => e = .returned (.int .i64 (Tp.tru b)) ∧ w' = w := (truth_calls b w).mono fun _ _ ⟨h1, h2⟩ => ⟨h1, h2.symm⟩
theorem key_q (f : Nat) (hf : U64 f) (w : World) : Calls Tryz.prog 71 #[.float .f64 f] w fun e w' => e = .returned (.int .u64 (Tp.key f)) ∧ w' = w := (key_calls f hf w).mono fun _ _ ⟨h1, h2⟩ => ⟨h1, h2.symm⟩
theorem cmpu_q (x y : Int) (w : World) : Calls Tryz.prog 70 #[.int .u64 x, .int .u64 y] w fun e w' => e = .returned (.int .i64 (Tp.cmpI x y)) ∧ w' = w := (cmp_uint64 x y w).mono fun _ _ ⟨h1, h2⟩ => ⟨h1, h2.symm⟩
theorem tru_le (b : Bool) : 0 ≤ Tp.tru b ∧ Tp.tru b ≤ 1 := by cases b <;> decide

set_option maxHeartbeats 4000000 in
set_option maxRecDepth 100000 in
theorem held_of (k : Nat) (b : Bool) (n : Int) (f : Nat) (t : List UInt8) (A : Option Addr) (m cap : Nat) (k' : Nat) (b' : Bool) (n' : Int) (f' : Nat) (t' : List UInt8) (A' : Option Addr) (m' cap' : Nat) (o : Int)
    (hf : U64 f) (hf' : U64 f') (w : World)
    (HS : ∀ w', Chg (fun _ => False) w w' → Calls Tryz.prog 45 #[.slice A m cap, .slice A' m' cap'] w' fun e w2 => e = .returned (.int .i64 o) ∧ Chg (fun _ => False) w' w2) :
    Calls Tryz.prog 42 #[IV k b n f t (.slice A m cap), IV k' b' n' f' t' (.slice A' m' cap')] w fun e w' => e = .returned (.int .i64 (Tp.heldV k b n f t k' b' n' f' t' o)) ∧ Chg (fun _ => False) w w' := by
  have HS := Lib.hid HS
  by_cases hk : k = k'
  · subst hk
    rcases kindCases k with rfl | rfl | rfl | rfl | rfl | ⟨q2, q3, q4, q5, q6, e2, e3, e4, e5, e6⟩
    · have Ht := Lib.hid truth_q
      have h1 := tru_le b
      have h2 := tru_le b'
      obtain ⟨x, hx⟩ : ∃ x, Tp.tru b = x := ⟨_, rfl⟩
      obtain ⟨y, hy⟩ : ∃ y, Tp.tru b' = y := ⟨_, rfl⟩
      have Hx := Lib.hid (And.intro hx hy)
      rw [hx] at h1
      rw [hy] at h2
      have T1 := Lib.hid (fun w => truth_q b w)
      have T2 := Lib.hid (fun w => truth_q b' w)
      rw [hx] at T1
      rw [hy] at T2
      clear hx hy Ht
      go_enter Tryz.func42, Tryz.ntmps42
      go_wp2_with fail
      go_quiet ((go_at_call 68; first | exact Calls.quiet_of_same (T1.out _) | exact Calls.quiet_of_same (T2.out _)))
      go_wp2_with fail
      go_ret
      refine ⟨ret_int ?_, (((Chg.refl _ w).alloc _).alloc _).drewN _⟩
      have := Hx.out
      unfold Tp.heldV
      rw [this.1, this.2]
      simp
    · go_enter Tryz.func42, Tryz.ntmps42
      go_wp2_with fail
      refine (cmp_int64 _ _ _).mono ?_
      rintro e w' ⟨rfl, rfl⟩
      go_wp2_with fail
      go_ret
      exact ⟨ret_int (by simp [Tp.heldV]), ((Chg.refl _ w).alloc _).alloc _⟩
    · go_enter Tryz.func42, Tryz.ntmps42
      go_wp2_with fail
      go_quiet ((first | (go_at_call 71; exact Calls.quiet_of_same (key_q _ (by first | exact hf | exact hf') _)) | (go_at_call 70; exact Calls.quiet_of_same (cmpu_q _ _ _))))
      go_wp2_with fail
      go_ret
      refine ⟨ret_int ?_, (((Chg.refl _ w).alloc _).alloc _).drewN _⟩
      simp [Tp.heldV]
    · go_enter Tryz.func42, Tryz.ntmps42
      go_wp2_with fail
      refine (texts_calls _ _ _).mono ?_
      rintro e w' ⟨rfl, rfl⟩
      go_wp2_with fail
      go_ret
      exact ⟨ret_int (by simp [Tp.heldV]), ((Chg.refl _ w).alloc _).alloc _⟩
    · go_enter Tryz.func42, Tryz.ntmps42
      go_wp2_with fail
      refine (HS.out _ (((Chg.refl _ w).alloc _).alloc _)).mono ?_
      rintro e w' ⟨rfl, hc⟩
      have Hc := Lib.hid hc
      clear hc
      go_wp2_with fail
      go_ret
      exact ⟨ret_int (by simp [Tp.heldV]), (((Chg.refl _ w).alloc _).alloc _).trans Hc.out⟩
    · have Q := Lib.hid (show k ≠ 2 ∧ k ≠ 3 ∧ k ≠ 4 ∧ k ≠ 5 ∧ k ≠ 6 from ⟨q2, q3, q4, q5, q6⟩)
      clear q2 q3 q4 q5 q6
      go_enter Tryz.func42, Tryz.ntmps42
      go_wp2_with fail
      refine (HS.out _ (((Chg.refl _ w).alloc _).alloc _)).mono ?_
      rintro e w' ⟨rfl, hc⟩
      have Hc := Lib.hid hc
      clear hc
      go_wp2_with fail
      go_ret
      obtain ⟨q2, q3, q4, q5, q6⟩ := Q.out
      exact ⟨ret_int (by simp [Tp.heldV, q2, q3, q4, q5]), (((Chg.refl _ w).alloc _).alloc _).trans Hc.out⟩
  · have e1 : ((k : Int) == (k' : Int)) = false := by rw [beq_eq_false_iff_ne]; omega
    have e2 : ((k : Int) != (k' : Int)) = true := by rw [bne_iff_ne]; omega
    have Hk := Lib.hid hk
    clear hk
    go_enter Tryz.func42, Tryz.ntmps42
    go_wp2_with fail
    refine (cmp_kind _ _ _).mono ?_
    rintro e w' ⟨rfl, rfl⟩
    go_wp2_with fail
    go_ret
    exact ⟨ret_int (by unfold Tp.heldV; rw [if_pos Hk.out]), ((Chg.refl _ w).alloc _).alloc _⟩

theorem Row.get {w : World} {B : Nat} {v : Value} {l : List It} (h : Row w B v l) {j k : Nat} {b : Bool} {n : Int} {f : Nat} {t : List UInt8} {ls : List It} (hx : l[j]? = some (It.mk k b n f t ls)) :
    ∃ g off cap vx, v = .slice (some ⟨g, off, none⟩) l.length cap ∧ g < B ∧ InIt k n f t ∧ (∀ (q : Nat) (u : Value), (icells k b n f t vx)[q]? = some u → w.cell? ⟨g, off + j * 6 + q, none⟩ = some u) ∧ Row w B vx ls := by
  cases h with
  | nil A cap hc1 => simp at hx
  | mk g off cap l vs hg hl hcap hc1 hin hcs hr =>
    have hlt := (List.getElem?_eq_some_iff.1 hx).1
    obtain ⟨xv, hxv⟩ : ∃ v, vs[j]? = some v := ⟨_, List.getElem?_eq_getElem (by omega)⟩
    exact ⟨g, off, cap, xv, rfl, hg, hin k b n f t ls (List.mem_of_getElem? hx), fun q u hu => hcs j k b n f t ls xv hx hxv q u hu, hr j k b n f t ls xv hx hxv⟩
namespace Tp
theorem side_nil (l : List It) : side [] l = cmpI 0 l.length := by
  cases l with
  | nil => simp [side, cmpI]
  | cons x l => obtain ⟨k, b, n, f, t, ls⟩ := x; simp only [side, cmpI, List.length_cons]; rw [if_pos (by omega)]
theorem side_nil2 (l : List It) : side l [] = cmpI l.length 0 := by
  cases l with
  | nil => simp [side, cmpI]
  | cons x l => obtain ⟨k, b, n, f, t, ls⟩ := x; simp only [side, cmpI, List.length_cons]; rw [if_neg (by omega), if_pos (by omega)]
theorem cmpI_sub (a b c : Int) : cmpI (a - c) (b - c) = cmpI a b := by
  have e1 : (a - c < b - c) = (a < b) := propext (by omega)
  have e2 : (b - c < a - c) = (b < a) := propext (by omega)
  simp only [cmpI, e1, e2]
/-- the shorter one is at its end -/
theorem side_end {l l' : List It} {j : Nat} (hj : j = min l.length l'.length) : side (l.drop j) (l'.drop j) = cmpI l.length l'.length := by
  rcases Nat.le_total l.length l'.length with h | h
  · have : j = l.length := by omega
    subst this
    rw [List.drop_length, side_nil, ← cmpI_sub (l.length : Int) l'.length l.length, List.length_drop]
    congr 1 <;> omega
  · have : j = l'.length := by omega
    subst this
    rw [List.drop_length, side_nil2, ← cmpI_sub (l.length : Int) l'.length l'.length, List.length_drop]
    congr 1 <;> omega
end Tp
theorem drop_get {l : List It} {j : Nat} {x : It} (hx : l[j]? = some x) : l.drop j = x :: l.drop (j + 1) := by
  have hlt := (List.getElem?_eq_some_iff.1 hx).1
  rw [List.drop_eq_getElem_cons hlt]
  congr 1
  exact (List.getElem?_eq_some_iff.1 hx).2

set_option maxHeartbeats 8000000 in
set_option maxRecDepth 100000 in
theorem side_calls {w0 : World} {B : Nat} {v : Value} {l : List It} (hrow : Row w0 B v l) : ∀ {v' : Value} {l' : List It} (hrow' : Row w0 B v' l') (w : World), Keep w0 B w →
    Calls Tryz.prog 45 #[v, v'] w fun e w' => e = .returned (.int .i64 (Tp.side l l')) ∧ Chg (fun _ => False) w w' := by
  induction hrow with
  | nil A0 cap0 hcap0 =>
    intro v' l' hrow' w hk
    obtain ⟨A', cap', rfl, hc1', hc2'⟩ := hrow'.slice
    have Hrow' := Lib.hid hrow'
    clear hrow'
    go_enter Tryz.func45, Tryz.ntmps45
    go_wp2_with fail
    go_loopw [12] (fun jv wr => jv = .int .i64 0 ∧ wr = w) (fun _ _ => 0)
    case atStart => exact ⟨rfl, rfl⟩
    case round =>
      obtain ⟨rfl, rfl⟩ := hrel
      go_wp2_with fail
      refine (cmp_int _ _ _).mono ?_
      rintro e w' ⟨rfl, rfl⟩
      go_wp2_with fail
      go_ret
      exact ⟨ret_int (by rw [Tp.side_nil]), Chg.refl _ _⟩
  | mk gr off cap l vs hgr hl hcap hc1 hin hcells hr ih =>
    intro v' l' hrow' w hk
    obtain ⟨A', cap', rfl, hc1', hc2'⟩ := hrow'.slice
    have Hrow' := Lib.hid hrow'
    clear hrow'
    go_enter Tryz.func45, Tryz.ntmps45
    go_wp2_with fail
    go_loopw [12] (fun jv wr => ∃ j : Nat, j ≤ min l.length l'.length ∧ jv = .int .i64 j ∧ Tp.side l l' = Tp.side (l.drop j) (l'.drop j) ∧ Chg (fun _ => False) w wr) (fun jv _ => l.length - (intOf jv).toNat)
    case atStart => exact ⟨0, by omega, rfl, by simp, Chg.refl _ _⟩
    case round =>
      obtain ⟨j, hj, rfl, hlk, hc'⟩ := hrel
      rcases Nat.lt_or_ge j (min l.length l'.length) with hlt | hge
      · obtain ⟨⟨xk, xb, xn, xf, xt, xl⟩, hx⟩ : ∃ x, l[j]? = some x := ⟨_, List.getElem?_eq_getElem (by omega)⟩
        obtain ⟨xv, hxv⟩ : ∃ v, vs[j]? = some v := ⟨_, List.getElem?_eq_getElem (by omega)⟩
        obtain ⟨⟨yk, yb, yn, yf, yt, yl⟩, hy⟩ : ∃ x, l'[j]? = some x := ⟨_, List.getElem?_eq_getElem (by omega)⟩
        obtain ⟨gr', off', cap2, yv, hA', hgr', hin', hcells', hr'⟩ := Hrow'.out.get hy
        obtain ⟨rfl, -, rfl⟩ : A' = some ⟨gr', off', none⟩ ∧ True ∧ cap' = cap2 := by injection hA' with a1 a2 a3; exact ⟨a1, trivial, a3⟩
        have hin1 := hin xk xb xn xf xt xl (List.mem_of_getElem? hx)
        have hk' := hk.chg hc' (fun k hkB e => e)
        have cx : ∀ q u, (icells xk xb xn xf xt xv)[q]? = some u → wr.cell? ⟨gr, off + j * 6 + q, none⟩ = some u := fun q u hq => by
          rw [hk'.1 _ hgr]; exact hcells j xk xb xn xf xt xl xv hx hxv q u hq
        have cy : ∀ q u, (icells yk yb yn yf yt yv)[q]? = some u → wr.cell? ⟨gr', off' + j * 6 + q, none⟩ = some u := fun q u hq => by
          rw [hk'.1 _ hgr']; exact hcells' q u hq
        have c0 := cx 0 _ rfl
        have c1 := cx 1 _ rfl
        have c2 := cx 2 _ rfl
        have c3 := cx 3 _ rfl
        have c4 := cx 4 _ rfl
        have c5 := cx 5 _ rfl
        have d0 := cy 0 _ rfl
        have d1 := cy 1 _ rfl
        have d2 := cy 2 _ rfl
        have d3 := cy 3 _ rfl
        have d4 := cy 4 _ rfl
        have d5 := cy 5 _ rfl
        obtain ⟨A, xcap, rfl, hxc1, hxc2⟩ := (hr j xk xb xn xf xt xl xv hx hxv).slice
        obtain ⟨A2, ycap, rfl, hyc1, hyc2⟩ := hr'.slice
        rw [Nat.add_zero] at c0 d0
        have HH := Lib.hid (fun w3 (hc3 : Chg (fun _ => False) wr w3) => held_of xk xb xn xf xt A xl.length xcap yk yb yn yf yt A2 yl.length ycap (Tp.side xl yl) hin1.f hin'.f w3
          (fun w4 hc4 => ih j xk xb xn xf xt xl _ hx hxv hr' w4 (hk'.chg (hc3.trans hc4) (fun k hkB e => e))))
        obtain ⟨o, ho⟩ : ∃ o, Tp.heldV xk xb xn xf xt yk yb yn yf yt (Tp.side xl yl) = o := ⟨_, rfl⟩
        rw [ho] at HH
        have hst : Tp.side l l' = if o ≠ 0 then o else Tp.side (l.drop (j + 1)) (l'.drop (j + 1)) := by
          rw [hlk, drop_get hx, drop_get hy, Tp.side_cons, ho]; rfl
        have Hst := Lib.hid hst
        have Hc' := Lib.hid hc'
        have b1 : j < l.length := by omega
        have b2 : j < l'.length := by omega
        have hjm : decide ((j : Int) < min (l.length : Int) (l'.length : Int)) = true := by rw [decide_eq_true_iff]; omega
        have Hlt := Lib.hid hlt
        clear hk hin hcells hr ih hx hxv hc' hl hlk hy hA' hin' hcells' hr' hin1 hk' cx cy hst ho hlt hj
        go_upto_region 4 with fail
        go_region_with ((go_at_call 42); refine (HH.out _ (Chg.refl _ _).drew).mono ?_; rintro e w2 ⟨rfl, hc2⟩)
        all_goals
          have Hc2 := Lib.hid ((Hc'.out).drew.andThen hc2 (fun _ _ h => h))
          clear hc2
          by_cases ho : o = 0
          · subst ho
            have hst := Hst.out
            rw [if_neg (by simp)] at hst
            have Hst2 := Lib.hid hst
            clear hst
            go_wp2_with fail
            go_round
            case rel =>
              exact ⟨j + 1, by have := Hlt.out; omega, by go_num, Hst2.out, Hc2.out⟩
            case measure => simp [intOf]; omega
          · have ho2 : (o != 0) = true := by simpa using ho
            have ho3 : (o == 0) = false := by simpa using ho
            have hst := Hst.out
            rw [if_pos ho] at hst
            have Hst2 := Lib.hid hst
            clear hst ho
            go_wp2_with fail
            go_ret
            exact ⟨ret_int (by rw [Hst2.out]), Hc2.out⟩
      · have hje : j = min l.length l'.length := by omega
        have Hlk := Lib.hid (show Tp.side l l' = Tp.cmpI l.length l'.length by rw [hlk]; exact Tp.side_end hje)
        have Hc' := Lib.hid hc'
        have hjm : decide ((j : Int) < min (l.length : Int) (l'.length : Int)) = false := by rw [decide_eq_false_iff_not]; omega
        clear hk hin hcells hr ih hc' hl hlk
        go_wp2_with fail
        refine (cmp_int _ _ _).mono ?_
        rintro e w' ⟨rfl, rfl⟩
        go_wp2_with fail
        go_ret
        exact ⟨ret_int (by rw [Hlk.out]), Hc'.out⟩

theorem Row.mono {w : World} {B B' : Nat} {v : Value} {l : List It} (h : Row w B v l) (hB : B ≤ B') : Row w B' v l := by
  induction h with
  | nil A cap hc1 => exact .nil A cap hc1
  | mk g off cap l vs hg hl hcap hc1 hin hcs hr ih => exact .mk g off cap l vs (by omega) hl hcap hc1 hin hcs ih
theorem Row.one {w : World} {B g : Nat} {k : Nat} {b : Bool} {n : Int} {f : Nat} {t : List UInt8} {v : Value} {ls : List It} (hb : Blk w g 40 #[.int .u8 k, .bool b, .int .i64 n, .float .f64 f, S t, v]) (hi : InIt k n f t) (hr : Row w B v ls) (hB : B ≤ g) :
    Row w (g + 1) (.slice (some ⟨g, 0, none⟩) 1 1) [It.mk k b n f t ls] := by
  refine .mk g 0 1 [It.mk k b n f t ls] [v] (by omega) rfl (by simp) (by simp) ?_ ?_ ?_
  · intro k' b' n' f' t' ls' h
    simp only [List.mem_singleton] at h
    injection h with h1 h2 h3 h4 h5 h6
    subst h1 h2 h3 h4 h5 h6
    exact hi
  · intro i k' b' n' f' t' ls' v' h1 h2 j u hu
    obtain rfl : i = 0 := by have := (List.getElem?_eq_some_iff.1 h1).1; simp at this; exact this
    simp only [List.getElem?_cons_zero, Option.some.injEq] at h1 h2
    injection h1 with h1 h2' h3 h4 h5 h6
    subst h1 h2' h3 h4 h5 h6 h2
    rw [show 0 + 0 * 6 + j = j by omega, hb.cell]
    have : #[.int .u8 k, .bool b, .int .i64 n, .float .f64 f, S t, v] = (icells k b n f t v).toArray := rfl
    rw [this]
    simpa using hu
  · intro i k' b' n' f' t' ls' v' h1 h2
    obtain rfl : i = 0 := by have := (List.getElem?_eq_some_iff.1 h1).1; simp at this; exact this
    simp only [List.getElem?_cons_zero, Option.some.injEq] at h1 h2
    injection h1 with h1 h2' h3 h4 h5 h6
    subst h1 h2' h3 h4 h5 h6 h2
    exact hr.mono (by omega)
theorem Blk.new' (w : World) (o1 : Obj) (t : TypeId) (cs : Array Value) : Blk ((w.alloc o1).alloc (.cells cs t)) (w.heap.size + 1) t cs := by
  have := Blk.new (w.alloc o1) t cs
  simpa using this
theorem Blk.new2 (w : World) (o1 o2 : Obj) (t : TypeId) (cs : Array Value) : Blk (((w.alloc o1).alloc o2).alloc (.cells cs t)) (w.heap.size + 1 + 1) t cs := by
  have := Blk.new ((w.alloc o1).alloc o2) t cs
  simpa using this
namespace Tp
/-- the program's Compare, Order -/
def ord (l l' : List It) : Int := if check l ≠ 0 ∨ check l' ≠ 0 then 0 else side l l'
def kind : It → Nat
  | .mk k _ _ _ _ _ => k
def comp (x y : It) : Int := if check [x] ≠ 0 ∨ check [y] ≠ 0 then cmpI (kind x) (kind y) else held x y
end Tp

set_option maxHeartbeats 4000000 in
set_option maxRecDepth 100000 in
theorem order_calls {w0 : World} {B : Nat} {v v' : Value} {l l' : List It} (hrow : Row w0 B v l) (hrow' : Row w0 B v' l') (w : World) (hk : Keep w0 B w) (hs : Tp.sz l ≤ 1000000000000) (hs' : Tp.sz l' ≤ 1000000000000) :
    Calls Tryz.prog 25 #[v, v'] w fun e w' => e = .returned (.int .i64 (Tp.ord l l')) ∧ Chg (fun _ => False) w w' := by
  have C1 := Lib.hid (fun w2 (hc : Chg (fun _ => False) w w2) => check_calls hrow w2 (hk.chg hc (fun k hkB e => e)) hs)
  have C2 := Lib.hid (fun w2 (hc : Chg (fun _ => False) w w2) => check_calls hrow' w2 (hk.chg hc (fun k hkB e => e)) hs')
  have C3 := Lib.hid (fun w2 (hc : Chg (fun _ => False) w w2) => side_calls hrow hrow' w2 (hk.chg hc (fun k hkB e => e)))
  obtain ⟨A, cap, rfl, -, -⟩ := hrow.slice
  obtain ⟨A', cap', rfl, -, -⟩ := hrow'.slice
  obtain ⟨x, hx⟩ : ∃ x, Tp.check l = x := ⟨_, rfl⟩
  obtain ⟨y, hy⟩ : ∃ y, Tp.check l' = y := ⟨_, rfl⟩
  rw [hx] at C1
  rw [hy] at C2
  have Ho := Lib.hid (show Tp.ord l l' = if x ≠ 0 ∨ y ≠ 0 then 0 else Tp.side l l' by unfold Tp.ord; rw [hx, hy])
  clear hrow hrow' hk hs hs' hx hy
  by_cases hx : x = 0
  · subst hx
    by_cases hy : y = 0
    · subst hy
      go_enter Tryz.func25, Tryz.ntmps25
      go_wp2_with fail
      refine (C1.out _ (Chg.refl _ _)).mono ?_
      rintro e w2 ⟨rfl, hc2⟩
      go_wp2_with fail
      refine (C2.out _ hc2).mono ?_
      rintro e w3 ⟨rfl, hc3⟩
      have hc4 := hc2.trans hc3
      go_wp2_with fail
      refine (C3.out _ hc4).mono ?_
      rintro e w5 ⟨rfl, hc5⟩
      go_wp2_with fail
      go_ret
      exact ⟨ret_int (by rw [Ho.out, if_neg (by simp)]), hc4.trans hc5⟩
    · have y1 : (y != 0) = true := by simpa using hy
      have y2 : (y == 0) = false := by simpa using hy
      have Hy := Lib.hid hy
      clear hy
      go_enter Tryz.func25, Tryz.ntmps25
      go_wp2_with fail
      refine (C1.out _ (Chg.refl _ _)).mono ?_
      rintro e w2 ⟨rfl, hc2⟩
      go_wp2_with fail
      refine (C2.out _ hc2).mono ?_
      rintro e w3 ⟨rfl, hc3⟩
      have hc4 := hc2.trans hc3
      go_wp2_with fail
      go_ret
      exact ⟨ret_int (by rw [Ho.out, if_pos (.inr Hy.out)]), hc4⟩
  · have x1 : (x != 0) = true := by simpa using hx
    have x2 : (x == 0) = false := by simpa using hx
    have Hx := Lib.hid hx
    clear hx
    go_enter Tryz.func25, Tryz.ntmps25
    go_wp2_with fail
    refine (C1.out _ (Chg.refl _ _)).mono ?_
    rintro e w2 ⟨rfl, hc2⟩
    go_wp2_with fail
    go_ret
    exact ⟨ret_int (by rw [Ho.out, if_pos (.inl Hx.out)]), hc2⟩

set_option maxHeartbeats 4000000 in
set_option maxRecDepth 100000 in
theorem compare_calls {w0 : World} {B : Nat} (k : Nat) (b : Bool) (n : Int) (f : Nat) (t : List UInt8) (v : Value) (ls : List It) (k' : Nat) (b' : Bool) (n' : Int) (f' : Nat) (t' : List UInt8) (v' : Value) (ls' : List It)
    (hi : InIt k n f t) (hi' : InIt k' n' f' t') (hrow : Row w0 B v ls) (hrow' : Row w0 B v' ls') (w : World) (hk : Keep w0 B w) (hs : Tp.sz [It.mk k b n f t ls] ≤ 1000000000000) (hs' : Tp.sz [It.mk k' b' n' f' t' ls'] ≤ 1000000000000) :
    Calls Tryz.prog 23 #[IV k b n f t v, IV k' b' n' f' t' v'] w fun e w' => e = .returned (.int .i64 (Tp.comp (.mk k b n f t ls) (.mk k' b' n' f' t' ls'))) ∧ Chg (fun _ => False) w w' := by
  have C1 := Lib.hid (fun w2 (g : Nat) (hc : Chg (fun _ => False) w w2) (hg : B ≤ g) (hb : Blk w2 g 40 #[.int .u8 k, .bool b, .int .i64 n, .float .f64 f, S t, v]) =>
    check_calls (Row.one hb hi (hrow.of_keep (hk.chg hc (fun k hkB e => e))) hg) w2 (Keep.refl w2 _ hb.lt) hs)
  have C2 := Lib.hid (fun w2 (g : Nat) (hc : Chg (fun _ => False) w w2) (hg : B ≤ g) (hb : Blk w2 g 40 #[.int .u8 k', .bool b', .int .i64 n', .float .f64 f', S t', v']) =>
    check_calls (Row.one hb hi' (hrow'.of_keep (hk.chg hc (fun k hkB e => e))) hg) w2 (Keep.refl w2 _ hb.lt) hs')
  obtain ⟨A, cap, hv, -, -⟩ := hrow.slice
  obtain ⟨A', cap', hv', -, -⟩ := hrow'.slice
  have C3 := Lib.hid (fun w2 (hc : Chg (fun _ => False) w w2) => held_of k b n f t A ls.length cap k' b' n' f' t' A' ls'.length cap' (Tp.side ls ls') hi.f hi'.f w2
    (fun w4 hc4 => by rw [← hv, ← hv']; exact side_calls hrow hrow' w4 (hk.chg (hc.trans hc4) (fun k hkB e => e))))
  subst hv hv'
  have HB := Lib.hid hk.2
  obtain ⟨x, hx⟩ : ∃ x, Tp.check [It.mk k b n f t ls] = x := ⟨_, rfl⟩
  obtain ⟨y, hy⟩ : ∃ y, Tp.check [It.mk k' b' n' f' t' ls'] = y := ⟨_, rfl⟩
  rw [hx] at C1
  rw [hy] at C2
  have Ho := Lib.hid (show Tp.comp (.mk k b n f t ls) (.mk k' b' n' f' t' ls') = if x ≠ 0 ∨ y ≠ 0 then Tp.cmpI k k' else Tp.held (.mk k b n f t ls) (.mk k' b' n' f' t' ls') by unfold Tp.comp; rw [hx, hy]; rfl)
  clear hrow hrow' hk hs hs' hx hy hi hi'
  obtain ⟨o1, ho1⟩ : ∃ o1, o1 = Obj.cells #[.int .u8 k, .bool b, .int .i64 n, .float .f64 f, S t, .slice A ls.length cap] 40 := ⟨_, rfl⟩
  obtain ⟨o2, ho2⟩ : ∃ o2, o2 = Obj.cells #[.int .u8 k', .bool b', .int .i64 n', .float .f64 f', S t', .slice A' ls'.length cap'] 40 := ⟨_, rfl⟩
  have N1 := Lib.hid (((Blk.new w 40 #[.int .u8 k, .bool b, .int .i64 n, .float .f64 f, S t, .slice A ls.length cap]).alloc o2).alloc o1)
  have N2 := Lib.hid ((Blk.new' w o1 40 #[.int .u8 k', .bool b', .int .i64 n', .float .f64 f', S t', .slice A' ls'.length cap']).alloc o1)
  have N3 := Lib.hid (Blk.new2 w o1 o2 40 #[.int .u8 k, .bool b, .int .i64 n, .float .f64 f, S t, .slice A ls.length cap])
  subst ho1 ho2
  by_cases hx : x = 0
  · subst hx
    go_enter Tryz.func23, Tryz.ntmps23
    go_wp2_with fail
    refine (C1.out _ _ ((((Chg.refl _ w).alloc _).alloc _).alloc _) (by have := HB.out; omega) N3.out).mono ?_
    rintro e w2 ⟨rfl, hc2⟩
    have hc := ((((Chg.refl (fun _ => False) w).alloc _).alloc _).alloc _).trans hc2
    have b1 := N1.out.chg hc2 (fun h => h)
    have b2 := N2.out.chg hc2 (fun h => h)
    have q0 : w2.cell? ⟨w.heap.size + 1, 0, none⟩ = some (.int .u8 k') := by rw [b2.cell]; rfl
    have q1 : w2.cell? ⟨w.heap.size + 1, 1, none⟩ = some (.bool b') := by rw [b2.cell]; rfl
    have q2 : w2.cell? ⟨w.heap.size + 1, 2, none⟩ = some (.int .i64 n') := by rw [b2.cell]; rfl
    have q3 : w2.cell? ⟨w.heap.size + 1, 3, none⟩ = some (.float .f64 f') := by rw [b2.cell]; rfl
    have q4 : w2.cell? ⟨w.heap.size + 1, 4, none⟩ = some (S t') := by rw [b2.cell]; rfl
    have q5 : w2.cell? ⟨w.heap.size + 1, 5, none⟩ = some (.slice A' ls'.length cap') := by rw [b2.cell]; rfl
    have B1 := Lib.hid b1
    have B2 := Lib.hid b2
    have Hc := Lib.hid hc
    clear hc hc2 b1 b2
    go_wp2_with fail
    refine (C2.out _ _ ((Hc.out).alloc _) (by have := HB.out; have := (Hc.out).size; omega) (Blk.new w2 _ _)).mono ?_
    rintro e w3 ⟨rfl, hc3⟩
    have hc := ((Hc.out).alloc _).trans hc3
    have b1 := ((B1.out).alloc _).chg hc3 (fun h => h)
    have b2 := ((B2.out).alloc _).chg hc3 (fun h => h)
    have p0 : w3.cell? ⟨w.heap.size, 0, none⟩ = some (.int .u8 k) := by rw [b1.cell]; rfl
    have p1 : w3.cell? ⟨w.heap.size, 1, none⟩ = some (.bool b) := by rw [b1.cell]; rfl
    have p2 : w3.cell? ⟨w.heap.size, 2, none⟩ = some (.int .i64 n) := by rw [b1.cell]; rfl
    have p3 : w3.cell? ⟨w.heap.size, 3, none⟩ = some (.float .f64 f) := by rw [b1.cell]; rfl
    have p4 : w3.cell? ⟨w.heap.size, 4, none⟩ = some (S t) := by rw [b1.cell]; rfl
    have p5 : w3.cell? ⟨w.heap.size, 5, none⟩ = some (.slice A ls.length cap) := by rw [b1.cell]; rfl
    have r0 : w3.cell? ⟨w.heap.size + 1, 0, none⟩ = some (.int .u8 k') := by rw [b2.cell]; rfl
    have r1 : w3.cell? ⟨w.heap.size + 1, 1, none⟩ = some (.bool b') := by rw [b2.cell]; rfl
    have r2 : w3.cell? ⟨w.heap.size + 1, 2, none⟩ = some (.int .i64 n') := by rw [b2.cell]; rfl
    have r3 : w3.cell? ⟨w.heap.size + 1, 3, none⟩ = some (.float .f64 f') := by rw [b2.cell]; rfl
    have r4 : w3.cell? ⟨w.heap.size + 1, 4, none⟩ = some (S t') := by rw [b2.cell]; rfl
    have r5 : w3.cell? ⟨w.heap.size + 1, 5, none⟩ = some (.slice A' ls'.length cap') := by rw [b2.cell]; rfl
    have Hc3 := Lib.hid hc
    clear hc hc3 b1 b2 q0 q1 q2 q3 q4 q5
    by_cases hy : y = 0
    · subst hy
      go_wp2_with fail
      refine (C3.out _ Hc3.out).mono ?_
      rintro e w5 ⟨rfl, hc5⟩
      go_wp2_with fail
      go_ret
      exact ⟨ret_int (by rw [Ho.out, if_neg (by simp)]; rfl), (Hc3.out).trans hc5⟩
    · have y1 : (y != 0) = true := by simpa using hy
      have y2 : (y == 0) = false := by simpa using hy
      have Hy := Lib.hid hy
      clear hy
      go_wp2_with fail
      refine (cmp_kind _ _ _).mono ?_
      rintro e w' ⟨rfl, rfl⟩
      go_wp2_with fail
      go_ret
      exact ⟨ret_int (by rw [Ho.out, if_pos (.inr Hy.out)]), Hc3.out⟩
  · have x1 : (x != 0) = true := by simpa using hx
    have x2 : (x == 0) = false := by simpa using hx
    have Hx := Lib.hid hx
    clear hx
    go_enter Tryz.func23, Tryz.ntmps23
    go_wp2_with fail
    refine (C1.out _ _ ((((Chg.refl _ w).alloc _).alloc _).alloc _) (by have := HB.out; omega) N3.out).mono ?_
    rintro e w2 ⟨rfl, hc2⟩
    have hc := ((((Chg.refl (fun _ => False) w).alloc _).alloc _).alloc _).trans hc2
    have b1 := N1.out.chg hc2 (fun h => h)
    have b2 := N2.out.chg hc2 (fun h => h)
    have p0 : w2.cell? ⟨w.heap.size, 0, none⟩ = some (.int .u8 k) := by rw [b1.cell]; rfl
    have q0 : w2.cell? ⟨w.heap.size + 1, 0, none⟩ = some (.int .u8 k') := by rw [b2.cell]; rfl
    have Hc := Lib.hid hc
    clear hc hc2 b1 b2
    go_wp2_with fail
    refine (cmp_kind _ _ _).mono ?_
    rintro e w' ⟨rfl, rfl⟩
    go_wp2_with fail
    go_ret
    exact ⟨ret_int (by rw [Ho.out, if_pos (.inl Hx.out)]), Hc.out⟩
end Go.Proofs.YtdicelibjpmglaaGreatDoor
