/-
  Layer 3: are two rows alike (heartwoodlaw03's own)? (Begun: the way of each first difference is open.)
-/
import Derived.Test.YtdicelibjpmglaaDoorBh
import Derived.Test.YtdicelibjpmglaaDoorTi
import Derived.BigQuiet
import Derived.Deep.QuietTactic
namespace Go.Proofs.YtdicelibjpmglaaDoor
open Go.RowKit
set_option linter.unusedVariables false
set_option linter.unusedSimpArgs false
attribute [local go_sem] run_store_float
open Tp (It)

namespace Tp
def alikeB : List It → List It → Bool
  | [], [] => true
  | .mk k b n f t ls :: l, .mk k' b' n' f' t' ls' :: l' => decide (k = k') && (b == b') && decide (n = n') && decide (fbits f = fbits f') && decide (t = t') && alikeB ls ls' && alikeB l l'
  | _, _ => false
theorem alikeB_iff : ∀ (l l' : List It), alikeB l l' = true ↔ alike l l'
  | [], [] => by simp [alikeB, alike]
  | .mk k b n f t ls :: l, .mk k' b' n' f' t' ls' :: l' => by
    have h1 := alikeB_iff ls ls'
    have h2 := alikeB_iff l l'
    simp only [alikeB, alike, Bool.and_eq_true, decide_eq_true_eq, beq_iff_eq, h1, h2, and_assoc]
  | [], _ :: _ => by simp [alikeB, alike]
  | .mk k b n f t ls :: l, [] => by simp [alikeB, alike]
theorem alikeB_len {l l' : List It} (h : ¬ l.length = l'.length) : alikeB l l' = false := by
  cases hb : alikeB l l'
  · rfl
  · exact absurd (alike_len ((alikeB_iff l l').1 hb)) h
end Tp

set_option maxHeartbeats 1000000 in
set_option maxRecDepth 100000 in
theorem lbits_calls (f : Nat) (hf : U64 f) (w : World) : Calls Tryd.prog 32 #[.float .f64 f] w fun e w' => e = .returned (.int .u64 (Tp.fbits f)) ∧ w' = w := by
  have h50 := @run_callFunc_extern Tryd.prog 50 _ Extern.MathFloatBits.float64bits Tryd.func50 (by kernel_rfl) (by kernel_rfl) (by kernel_rfl) (by kernel_rfl)
  have hfb := fb_run
  have hself := Fl.order_self f hf
  have Hb := Lib.hid (show Tp.fbits f = if Tp.nan f = true then 9221120237041090560 else f by unfold Tp.fbits Tp.theNaN; rfl)
  clear hf
  cases hn : Tp.nan f
  · rw [hn] at hself Hb
    clear hn
    go_enter Tryd.func32, Tryd.ntmps32
    go_wp2_with fail
    go_ret
    exact ⟨ret_int (by rw [Hb.out]; simp), rfl⟩
  · rw [hn] at hself Hb
    clear hn
    go_enter Tryd.func32, Tryd.ntmps32
    go_wp2_with fail
    go_ret
    exact ⟨ret_int (by rw [Hb.out]; simp), rfl⟩
set_option maxHeartbeats 8000000 in
set_option maxRecDepth 100000 in
theorem alike_calls : ∀ (N : Nat) (w0 : World) (B : Nat) (v v' : Value) (l l' : List It) (hrow : Row w0 B v l) (hrow' : Row w0 B v' l') (w : World), Keep w0 B w → Tp.cnt l < N →
    Calls Tryd.prog 19 #[v, v'] w fun e w' => e = .returned (.bool (Tp.alikeB l l')) ∧ Chg (fun _ => False) w w' := by
  intro N
  induction N with
  | zero => intro w0 B v v' l l' hrow hrow' w hk hN; omega
  | succ N ihN =>
    intro w0 B v v' l l' hrow hrow' w hk hN
    obtain ⟨A, cap, rfl, -, hl0⟩ := hrow.slice
    obtain ⟨A', cap', rfl, -, -⟩ := hrow'.slice
    have Hrow := Lib.hid hrow
    have Hrow' := Lib.hid hrow'
    have HI0 := Lib.hid ihN
    clear hrow hrow' ihN
    by_cases hlen : l.length = l'.length
    rotate_left
    · have f1 : ((l.length : Int) == (l'.length : Int)) = false := by rw [beq_eq_false_iff_ne]; omega
      have f2 : ((l.length : Int) != (l'.length : Int)) = true := by rw [bne_iff_ne]; omega
      have Hfalse := Lib.hid (Tp.alikeB_len hlen)
      clear hlen hk
      go_enter Tryd.func19, Tryd.ntmps19
      go_wp2_with fail
      go_ret
      exact ⟨by rw [Hfalse.out]; rfl, Chg.refl _ _⟩
    rw [← hlen]
    have Hlen := Lib.hid hlen
    clear hlen
    go_enter Tryd.func19, Tryd.ntmps19
    go_wp2_with fail
    go_loopw [5] (fun jv wr => ∃ j : Nat, j ≤ l.length ∧ jv = .int .i64 j ∧ Tp.alikeB l l' = Tp.alikeB (l.drop j) (l'.drop j) ∧ Chg (fun _ => False) w wr) (fun jv _ => l.length - (intOf jv).toNat)
    case atStart => exact ⟨0, by omega, rfl, by simp, Chg.refl _ _⟩
    case round =>
      obtain ⟨j, hj, rfl, hlk, hc'⟩ := hrel
      rcases Nat.lt_or_ge j l.length with hlt | hge
      · obtain ⟨⟨xk, xb, xn, xf, xt, xl⟩, hx⟩ : ∃ x, l[j]? = some x := ⟨_, List.getElem?_eq_getElem hlt⟩
        obtain ⟨⟨yk, yb, yn, yf, yt, yl⟩, hy⟩ : ∃ x, l'[j]? = some x := ⟨_, List.getElem?_eq_getElem (by have := Hlen.out; omega)⟩
        obtain ⟨gr, off, cap2, xv, hA, hgr, hin, hcells, hr⟩ := Hrow.out.get hx
        obtain ⟨gr', off', cap2', yv, hA', hgr', hin', hcells', hr'⟩ := Hrow'.out.get hy
        obtain ⟨rfl, rfl⟩ : A = some ⟨gr, off, none⟩ ∧ cap = cap2 := by injection hA with a1 a2 a3; exact ⟨a1, a3⟩
        obtain ⟨rfl, rfl⟩ : A' = some ⟨gr', off', none⟩ ∧ cap' = cap2' := by injection hA' with a1 a2 a3; exact ⟨a1, a3⟩
        have hk' := hk.chg hc' (fun k hkB e => e)
        have cx : ∀ q u, (icells xk xb xn xf xt xv)[q]? = some u → wr.cell? ⟨gr, off + j * 6 + q, none⟩ = some u := fun q u hq => by rw [hk'.1 _ hgr]; exact hcells q u hq
        have cy : ∀ q u, (icells yk yb yn yf yt yv)[q]? = some u → wr.cell? ⟨gr', off' + j * 6 + q, none⟩ = some u := fun q u hq => by rw [hk'.1 _ hgr']; exact hcells' q u hq
        have c0 := cx 0 _ rfl
        have c1 := cx 1 _ rfl
        have c2 := cx 2 _ rfl
        have c3 := cx 3 _ rfl
        have c4 := cx 4 _ rfl
        have c5 := cx 5 _ rfl
        have d0 := cy 0 _ rfl
        have d1 := cy 1 _ rfl
        have d2 := cy 2 _ rfl
        have d3 := cy 3 _ rfl
        have d4 := cy 4 _ rfl
        have d5 := cy 5 _ rfl
        rw [Nat.add_zero] at c0 d0
        obtain ⟨A2, xcap, rfl, -, -⟩ := hr.slice
        obtain ⟨A3, ycap, rfl, -, -⟩ := hr'.slice
        have hs1 := Tp.cnt_sub hx
        have HS := Lib.hid (fun wc (hcx : Chg (fun _ => False) wr wc) => (HI0.out) _ _ _ _ _ _ hr hr' wc (hk'.chg hcx (fun k hkB e => e)) (by omega))
        have HB1 := Lib.hid (fun w => lbits_calls xf hin.f w)
        have HB2 := Lib.hid (fun w => lbits_calls yf hin'.f w)
        have hst : Tp.alikeB l l' = (decide (xk = yk) && (xb == yb) && decide (xn = yn) && decide (Tp.fbits xf = Tp.fbits yf) && decide (xt = yt) && Tp.alikeB xl yl && Tp.alikeB (l.drop (j + 1)) (l'.drop (j + 1))) := by
          rw [hlk, drop_get hx, drop_get hy]; simp only [Tp.alikeB]
        have Hst := Lib.hid hst
        obtain ⟨bf, hbf⟩ : ∃ bf, Tp.fbits xf = bf := ⟨_, rfl⟩
        obtain ⟨bg, hbg⟩ : ∃ bg, Tp.fbits yf = bg := ⟨_, rfl⟩
        rw [hbf] at HB1
        rw [hbg] at HB2
        rw [hbf, hbg] at Hst
        obtain ⟨la, hla⟩ : ∃ la, Tp.alikeB xl yl = la := ⟨_, rfl⟩
        rw [hla] at Hst HS
        have hbx := World.block_lt_of_cell? _ _ c0
        have hby := World.block_lt_of_cell? _ _ d0
        have hbx' : gr < wr.heap.size := hbx
        have hby' : gr' < wr.heap.size := hby
        have Hc' := Lib.hid hc'
        clear hbf hbg hla hst hlk hin hin' hcells hcells' hr hr' hk' cx cy hx hy hA hA' hc' hk hs1 hbx hby hgr hgr'
        go_upto_region 6 with fail
        go_cut [6, 7] (fun a b wx => ∃ p q, a = .pointer (some ⟨p, 0, none⟩) ∧ b = .pointer (some ⟨q, 0, none⟩) ∧ Blk wx p 37 #[.int .u8 xk, .bool xb, .int .i64 xn, .float .f64 xf, S xt, .slice A2 xl.length xcap] ∧ Blk wx q 37 #[.int .u8 yk, .bool yb, .int .i64 yn, .float .f64 yf, S yt, .slice A3 yl.length ycap] ∧ Chg (fun _ => False) wr wx)
        case first =>
          go_region_held3 (fun w' => w'.cell? ⟨gr, off + j * 6, none⟩ = some (.int .u8 xk) ∧ w'.cell? ⟨gr, off + j * 6 + 1, none⟩ = some (.bool xb) ∧ w'.cell? ⟨gr, off + j * 6 + 2, none⟩ = some (.int .i64 xn) ∧ w'.cell? ⟨gr, off + j * 6 + 3, none⟩ = some (.float .f64 xf) ∧ w'.cell? ⟨gr, off + j * 6 + 4, none⟩ = some (S xt) ∧ w'.cell? ⟨gr, off + j * 6 + 5, none⟩ = some (.slice A2 xl.length xcap) ∧
              w'.cell? ⟨gr', off' + j * 6, none⟩ = some (.int .u8 yk) ∧ w'.cell? ⟨gr', off' + j * 6 + 1, none⟩ = some (.bool yb) ∧ w'.cell? ⟨gr', off' + j * 6 + 2, none⟩ = some (.int .i64 yn) ∧ w'.cell? ⟨gr', off' + j * 6 + 3, none⟩ = some (.float .f64 yf) ∧ w'.cell? ⟨gr', off' + j * 6 + 4, none⟩ = some (S yt) ∧ w'.cell? ⟨gr', off' + j * 6 + 5, none⟩ = some (.slice A3 yl.length ycap))
            (go_keep) (fail)
          all_goals
            go_wp2_with fail
            go_meet
            first
              | exact ⟨_, _, rfl, rfl, ((Blk.new wr 37 #[.int .u8 xk, .bool xb, .int .i64 xn, .float .f64 xf, S xt, .slice A2 xl.length xcap]).alloc _).drew, (Blk.new' wr _ 37 #[.int .u8 yk, .bool yb, .int .i64 yn, .float .f64 yf, S yt, .slice A3 yl.length ycap]).drew, (((Chg.refl _ wr).alloc _).alloc _).drew⟩
              | exact ⟨_, _, rfl, rfl, (Blk.new' wr _ 37 #[.int .u8 xk, .bool xb, .int .i64 xn, .float .f64 xf, S xt, .slice A2 xl.length xcap]).drew, ((Blk.new wr 37 #[.int .u8 yk, .bool yb, .int .i64 yn, .float .f64 yf, S yt, .slice A3 yl.length ycap]).alloc _).drew, (((Chg.refl _ wr).alloc _).alloc _).drew⟩
        case rest =>
          clear c0 c1 c2 c3 c4 c5 d0 d1 d2 d3 d4 d5
          obtain ⟨p, q, rfl, rfl, bp, bq, hcw⟩ := hcut
          have bp' := bp.drew
          have bq' := bq.drew
          have Hcw := Lib.hid hcw
          have Hcd := Lib.hid hcw.drew
          clear hcw
          have hcase : xk ≠ yk ∨ (xk = yk ∧ xb ≠ yb) ∨ (xk = yk ∧ xb = yb ∧ xn ≠ yn) ∨ (xk = yk ∧ xb = yb ∧ xn = yn ∧ bf ≠ bg) ∨ (xk = yk ∧ xb = yb ∧ xn = yn ∧ bf = bg ∧ xt ≠ yt) ∨ (xk = yk ∧ xb = yb ∧ xn = yn ∧ bf = bg ∧ xt = yt) := by
            by_cases h1 : xk = yk <;> by_cases h2 : xb = yb <;> by_cases h3 : xn = yn <;> by_cases h4 : bf = bg <;> by_cases h5 : xt = yt <;> simp [h1, h2, h3, h4, h5]
          rcases hcase with hd | ⟨rfl, hd⟩ | ⟨rfl, rfl, hd⟩ | ⟨rfl, rfl, rfl, hd⟩ | ⟨rfl, rfl, rfl, rfl, hd⟩ | ⟨rfl, rfl, rfl, rfl, rfl⟩
          · have e1 : ((xk : Int) != yk) = true := by rw [bne_iff_ne]; omega
            have e2 : ((xk : Int) == yk) = false := by rw [beq_eq_false_iff_ne]; omega
            have Hf := Lib.hid (show Tp.alikeB l l' = false by rw [Hst.out]; simp [hd])
            clear hd HS
            go_upto_region 7 with fail
            obtain ⟨k0, k1, k2, k3, k4, k5, m0, m1, m2, m3, m4, m5⟩ := s12 bp bq
            go_quiet ((first | (go_at_call 32; exact Calls.quiet_of_same (HB1.out _)) | (go_at_call 32; exact Calls.quiet_of_same (HB2.out _))))
            all_goals
              have Hce := Lib.hid ((Hc'.out).trans (Hcw.out))
              clear bp bq bp' bq' k0 k1 k2 k3 k4 k5 m0 m1 m2 m3 m4 m5
              go_wp2_with fail
              go_ret
              exact ⟨by rw [Hf.out]; rfl, (Hce.out).drewN _⟩
          · have e1 : (xb != yb) = true := by rw [bne_iff_ne]; exact hd
            have e2 : (xb == yb) = false := by rw [beq_eq_false_iff_ne]; exact hd
            have Hf := Lib.hid (show Tp.alikeB l l' = false by rw [Hst.out]; simp [hd])
            clear hd HS
            go_upto_region 7 with fail
            obtain ⟨k0, k1, k2, k3, k4, k5, m0, m1, m2, m3, m4, m5⟩ := s12 bp bq
            go_quiet ((first | (go_at_call 32; exact Calls.quiet_of_same (HB1.out _)) | (go_at_call 32; exact Calls.quiet_of_same (HB2.out _))))
            all_goals
              have Hce := Lib.hid ((Hc'.out).trans (Hcw.out))
              clear bp bq bp' bq' k0 k1 k2 k3 k4 k5 m0 m1 m2 m3 m4 m5
              go_wp2_with fail
              go_ret
              exact ⟨by rw [Hf.out]; rfl, (Hce.out).drewN _⟩
          · have e1 : (xn != yn) = true := by rw [bne_iff_ne]; exact hd
            have e2 : (xn == yn) = false := by rw [beq_eq_false_iff_ne]; exact hd
            have Hf := Lib.hid (show Tp.alikeB l l' = false by rw [Hst.out]; simp [hd])
            clear hd HS
            go_upto_region 7 with fail
            obtain ⟨k0, k1, k2, k3, k4, k5, m0, m1, m2, m3, m4, m5⟩ := s12 bp bq
            go_quiet ((first | (go_at_call 32; exact Calls.quiet_of_same (HB1.out _)) | (go_at_call 32; exact Calls.quiet_of_same (HB2.out _))))
            all_goals
              have Hce := Lib.hid ((Hc'.out).trans (Hcw.out))
              clear bp bq bp' bq' k0 k1 k2 k3 k4 k5 m0 m1 m2 m3 m4 m5
              go_wp2_with fail
              go_ret
              exact ⟨by rw [Hf.out]; rfl, (Hce.out).drewN _⟩
          · have e1 : ((bf : Int) != bg) = true := by rw [bne_iff_ne]; omega
            have e2 : ((bf : Int) == bg) = false := by rw [beq_eq_false_iff_ne]; omega
            have Hf := Lib.hid (show Tp.alikeB l l' = false by rw [Hst.out]; simp [hd])
            clear hd HS
            go_upto_region 7 with fail
            obtain ⟨k0, k1, k2, k3, k4, k5, m0, m1, m2, m3, m4, m5⟩ := s12 bp bq
            go_quiet ((first | (go_at_call 32; exact Calls.quiet_of_same (HB1.out _)) | (go_at_call 32; exact Calls.quiet_of_same (HB2.out _))))
            all_goals
              have Hce := Lib.hid ((Hc'.out).trans (Hcw.out))
              clear bp bq bp' bq' k0 k1 k2 k3 k4 k5 m0 m1 m2 m3 m4 m5
              go_wp2_with fail
              go_ret
              exact ⟨by rw [Hf.out]; rfl, (Hce.out).drewN _⟩
          · have e1 : (xt != yt) = true := by rw [bne_iff_ne]; exact hd
            have e2 : (xt == yt) = false := by rw [beq_eq_false_iff_ne]; exact hd
            have Hf := Lib.hid (show Tp.alikeB l l' = false by rw [Hst.out]; simp [hd])
            clear hd HS
            go_upto_region 7 with fail
            obtain ⟨k0, k1, k2, k3, k4, k5, m0, m1, m2, m3, m4, m5⟩ := s12 bp bq
            go_quiet ((first | (go_at_call 32; exact Calls.quiet_of_same (HB1.out _)) | (go_at_call 32; exact Calls.quiet_of_same (HB2.out _))))
            all_goals
              have Hce := Lib.hid ((Hc'.out).trans (Hcw.out))
              clear bp bq bp' bq' k0 k1 k2 k3 k4 k5 m0 m1 m2 m3 m4 m5
              go_wp2_with fail
              go_ret
              exact ⟨by rw [Hf.out]; rfl, (Hce.out).drewN _⟩
          · go_upto_region 7 with fail
            go_region_held3 (fun w' => w'.cell? ⟨p, 0, none⟩ = some (.int .u8 xk) ∧ w'.cell? ⟨p, 1, none⟩ = some (.bool xb) ∧ w'.cell? ⟨p, 2, none⟩ = some (.int .i64 xn) ∧ w'.cell? ⟨p, 3, none⟩ = some (.float .f64 xf) ∧ w'.cell? ⟨p, 4, none⟩ = some (S xt) ∧ w'.cell? ⟨p, 5, none⟩ = some (.slice A2 xl.length xcap) ∧
                w'.cell? ⟨q, 0, none⟩ = some (.int .u8 xk) ∧ w'.cell? ⟨q, 1, none⟩ = some (.bool xb) ∧ w'.cell? ⟨q, 2, none⟩ = some (.int .i64 xn) ∧ w'.cell? ⟨q, 3, none⟩ = some (.float .f64 yf) ∧ w'.cell? ⟨q, 4, none⟩ = some (S xt) ∧ w'.cell? ⟨q, 5, none⟩ = some (.slice A3 yl.length ycap))
              (first | exact s12 (by assumption) (by assumption))
              (first
                | (go_at_call 32; (with_reducible refine (HB1.out _).mono ?_); rintro e w5 ⟨rfl, rfl⟩)
                | (go_at_call 32; (with_reducible refine (HB2.out _).mono ?_); rintro e w5 ⟨rfl, rfl⟩)
                | (go_at_call 19; (with_reducible refine (HS.out _ Hcd.out).mono ?_); rintro e w5 ⟨rfl, hc5⟩; have b5 := bp'.chg hc5 (fun h => h); have q5 := bq'.chg hc5 (fun h => h)))
            all_goals
              have Hce := Lib.hid (((Hc'.out).trans (Hcd.out)).trans hc5)
              have Hst2 := Lib.hid (show Tp.alikeB l l' = (la && Tp.alikeB (l.drop (j + 1)) (l'.drop (j + 1))) by rw [Hst.out]; simp)
              clear hc5 b5 q5 bp bq bp' bq'
              cases la
              · go_wp2_with fail
                go_ret
                exact ⟨by rw [Hst2.out]; rfl, Hce.out⟩
              · go_wp2_with fail
                go_round
                case rel => exact ⟨j + 1, by omega, by go_num, by rw [Hst2.out]; rfl, Hce.out⟩
                case measure => simp [intOf]; omega
      · have hjl : j = l.length := by omega
        have Hend := Lib.hid (show Tp.alikeB l l' = true by
          have := Hlen.out
          rw [hlk, List.drop_eq_nil_of_le (by omega), List.drop_eq_nil_of_le (by omega)]; simp [Tp.alikeB])
        have Hc' := Lib.hid hc'
        have hnl : ¬ ((j : Int) < (l.length : Int)) := by omega
        have hnl2 : decide ((j : Int) < (l.length : Int)) = false := by rw [decide_eq_false_iff_not]; omega
        clear hc' hk hlk
        go_wp2_with fail
        go_ret
        exact ⟨by rw [Hend.out]; rfl, Hc'.out⟩
end Go.Proofs.YtdicelibjpmglaaDoor
