/-
  Layer 3: the document's Bits and Same: of two rows that are alike.
-/
import Derived.Test.YtdicelibjpmglaaGreatDoorLu
import Derived.Deep.RegionHeld3
namespace Go.Proofs.YtdicelibjpmglaaGreatDoor
open Go.RowKit
set_option linter.unusedVariables false
set_option linter.unusedSimpArgs false
attribute [local go_sem] run_store_float
open Tp (It)

namespace Tp
/-- alike: floats by their bits, any NaN as any other -/
def alike : List It → List It → Prop
  | [], [] => True
  | .mk k b n f t ls :: l, .mk k' b' n' f' t' ls' :: l' => (k = k' ∧ b = b' ∧ n = n' ∧ fbits f = fbits f' ∧ t = t') ∧ alike ls ls' ∧ alike l l'
  | _, _ => False
theorem alike_refl : ∀ (l : List It), alike l l
  | [] => by simp [alike]
  | .mk k b n f t ls :: l => by simp [alike, alike_refl ls, alike_refl l]
theorem alike_len : ∀ {l l' : List It}, alike l l' → l.length = l'.length
  | [], [], _ => rfl
  | .mk k b n f t ls :: l, .mk k' b' n' f' t' ls' :: l', h => by simp only [alike] at h; simp [alike_len h.2.2]
  | [], _ :: _, h => by simp [alike] at h
  | .mk k b n f t ls :: l, [], h => by simp [alike] at h
theorem alike_at : ∀ {l l' : List It}, alike l l' → ∀ {i k : Nat} {b : Bool} {n : Int} {f : Nat} {t : List UInt8} {ls : List It}, l[i]? = some (.mk k b n f t ls) → ∃ f' ls', l'[i]? = some (.mk k b n f' t ls') ∧ fbits f = fbits f' ∧ alike ls ls'
  | [], [], _, i, k, b, n, f, t, ls, hx => by simp at hx
  | .mk k b n f t ls :: l, .mk k' b' n' f' t' ls' :: l', h, 0, k1, b1, n1, f1, t1, ls1, hx => by
    simp only [alike] at h
    simp at hx
    obtain ⟨rfl, rfl, rfl, rfl, rfl, rfl⟩ := hx
    obtain ⟨⟨rfl, rfl, rfl, h4, rfl⟩, h6, -⟩ := h
    exact ⟨f', ls', rfl, h4, h6⟩
  | .mk k b n f t ls :: l, .mk k' b' n' f' t' ls' :: l', h, i + 1, k1, b1, n1, f1, t1, ls1, hx => by
    simp only [alike] at h
    simp at hx ⊢
    exact alike_at h.2.2 hx
  | [], _ :: _, h, i, k, b, n, f, t, ls, hx => by simp [alike] at h
  | .mk k b n f t ls :: l, [], h, i, k1, b1, n1, f1, t1, ls1, hx => by simp [alike] at h
end Tp

set_option maxHeartbeats 1000000 in
set_option maxRecDepth 100000 in
theorem rbits_calls (f : Nat) (hf : U64 f) (w : World) : Calls Tryz.prog 34 #[.float .f64 f] w fun e w' => e = .returned (.int .u64 (Tp.fbits f)) ∧ w' = w := by
  have h50 := @run_callFunc_extern Tryz.prog 61 _ Extern.MathFloatBits.float64bits Tryz.func61 (by kernel_rfl) (by kernel_rfl) (by kernel_rfl) (by kernel_rfl)
  have hfb := fb_run
  have hself := Fl.order_self f hf
  have Hb := Lib.hid (show Tp.fbits f = if Tp.nan f = true then 9221120237041090560 else f by unfold Tp.fbits Tp.theNaN; rfl)
  clear hf
  cases hn : Tp.nan f
  · rw [hn] at hself Hb
    clear hn
    go_enter Tryz.func34, Tryz.ntmps34
    go_wp2_with fail
    go_ret
    exact ⟨ret_int (by rw [Hb.out]; simp), rfl⟩
  · rw [hn] at hself Hb
    clear hn
    go_enter Tryz.func34, Tryz.ntmps34
    go_wp2_with fail
    go_ret
    exact ⟨ret_int (by rw [Hb.out]; simp), rfl⟩
section
variable {w : World} {g : Nat} {t : TypeId} {a b c d e f u : Value}
theorem Blk.set0 (h : Blk w g t #[a, b, c, d, e, f]) : Blk (w.setCell ⟨g, 0, none⟩ u) g t #[u, b, c, d, e, f] := h.set_ 0 u
theorem Blk.set1 (h : Blk w g t #[a, b, c, d, e, f]) : Blk (w.setCell ⟨g, 1, none⟩ u) g t #[a, u, c, d, e, f] := h.set_ 1 u
theorem Blk.set2 (h : Blk w g t #[a, b, c, d, e, f]) : Blk (w.setCell ⟨g, 2, none⟩ u) g t #[a, b, u, d, e, f] := h.set_ 2 u
theorem Blk.set3 (h : Blk w g t #[a, b, c, d, e, f]) : Blk (w.setCell ⟨g, 3, none⟩ u) g t #[a, b, c, u, e, f] := h.set_ 3 u
theorem Blk.set4 (h : Blk w g t #[a, b, c, d, e, f]) : Blk (w.setCell ⟨g, 4, none⟩ u) g t #[a, b, c, d, u, f] := h.set_ 4 u
theorem Blk.set5 (h : Blk w g t #[a, b, c, d, e, f]) : Blk (w.setCell ⟨g, 5, none⟩ u) g t #[a, b, c, d, e, u] := h.set_ 5 u
end

theorem s12 {w : World} {p q : Nat} {a0 a1 a2 a3 a4 a5 b0 b1 b2 b3 b4 b5 : Value} {t : TypeId} (hp : Blk w p t #[a0, a1, a2, a3, a4, a5]) (hq : Blk w q t #[b0, b1, b2, b3, b4, b5]) :
    w.cell? ⟨p, 0, none⟩ = some a0 ∧ w.cell? ⟨p, 1, none⟩ = some a1 ∧ w.cell? ⟨p, 2, none⟩ = some a2 ∧ w.cell? ⟨p, 3, none⟩ = some a3 ∧ w.cell? ⟨p, 4, none⟩ = some a4 ∧ w.cell? ⟨p, 5, none⟩ = some a5 ∧
      w.cell? ⟨q, 0, none⟩ = some b0 ∧ w.cell? ⟨q, 1, none⟩ = some b1 ∧ w.cell? ⟨q, 2, none⟩ = some b2 ∧ w.cell? ⟨q, 3, none⟩ = some b3 ∧ w.cell? ⟨q, 4, none⟩ = some b4 ∧ w.cell? ⟨q, 5, none⟩ = some b5 := by
  refine ⟨?_, ?_, ?_, ?_, ?_, ?_, ?_, ?_, ?_, ?_, ?_, ?_⟩
  all_goals first | (rw [hp.cell]; rfl) | (rw [hq.cell]; rfl)

set_option maxHeartbeats 8000000 in
set_option maxRecDepth 100000 in
theorem same_calls : ∀ (N : Nat) (w0 : World) (B : Nat) (v v' : Value) (l l' : List It) (hrow : Row w0 B v l) (hrow' : Row w0 B v' l') (w : World), Keep w0 B w → Tp.cnt l < N → Tp.alike l l' →
    Calls Tryz.prog 13 #[v, v'] w fun e w' => e = .returned (.bool true) ∧ Chg (fun _ => False) w w' := by
  intro N
  induction N with
  | zero => intro w0 B v v' l l' hrow hrow' w hk hN; omega
  | succ N ihN =>
    intro w0 B v v' l l' hrow hrow' w hk hN hal
    obtain ⟨A, cap, rfl, -, hl0⟩ := hrow.slice
    obtain ⟨A', cap', rfl, -, -⟩ := hrow'.slice
    have hlen := Tp.alike_len hal
    have Hrow := Lib.hid hrow
    have Hrow' := Lib.hid hrow'
    have Hal := Lib.hid hal
    have HI0 := Lib.hid ihN
    rw [← hlen]
    clear hrow hrow' hal ihN hlen
    go_enter Tryz.func13, Tryz.ntmps13
    go_wp2_with fail
    go_loopw [5] (fun jv wr => ∃ j : Nat, j ≤ l.length ∧ jv = .int .i64 j ∧ Chg (fun _ => False) w wr) (fun jv _ => l.length - (intOf jv).toNat)
    case atStart => exact ⟨0, by omega, rfl, Chg.refl _ _⟩
    case round =>
      obtain ⟨j, hj, rfl, hc'⟩ := hrel
      rcases Nat.lt_or_ge j l.length with hlt | hge
      · obtain ⟨⟨xk, xb, xn, xf, xt, xl⟩, hx⟩ : ∃ x, l[j]? = some x := ⟨_, List.getElem?_eq_getElem hlt⟩
        obtain ⟨yf, yl, hy, hfb, hal2⟩ := Tp.alike_at Hal.out hx
        obtain ⟨gr, off, cap2, xv, hA, hgr, hin, hcells, hr⟩ := Hrow.out.get hx
        obtain ⟨gr', off', cap2', yv, hA', hgr', hin', hcells', hr'⟩ := Hrow'.out.get hy
        obtain ⟨rfl, rfl⟩ : A = some ⟨gr, off, none⟩ ∧ cap = cap2 := by injection hA with a1 a2 a3; exact ⟨a1, a3⟩
        obtain ⟨rfl, rfl⟩ : A' = some ⟨gr', off', none⟩ ∧ cap' = cap2' := by injection hA' with a1 a2 a3; exact ⟨a1, a3⟩
        have hk' := hk.chg hc' (fun k hkB e => e)
        have cx : ∀ q u, (icells xk xb xn xf xt xv)[q]? = some u → wr.cell? ⟨gr, off + j * 6 + q, none⟩ = some u := fun q u hq => by rw [hk'.1 _ hgr]; exact hcells q u hq
        have cy : ∀ q u, (icells xk xb xn yf xt yv)[q]? = some u → wr.cell? ⟨gr', off' + j * 6 + q, none⟩ = some u := fun q u hq => by rw [hk'.1 _ hgr']; exact hcells' q u hq
        have c0 := cx 0 _ rfl
        have c1 := cx 1 _ rfl
        have c2 := cx 2 _ rfl
        have c3 := cx 3 _ rfl
        have c4 := cx 4 _ rfl
        have c5 := cx 5 _ rfl
        have d0 := cy 0 _ rfl
        have d1 := cy 1 _ rfl
        have d2 := cy 2 _ rfl
        have d3 := cy 3 _ rfl
        have d4 := cy 4 _ rfl
        have d5 := cy 5 _ rfl
        rw [Nat.add_zero] at c0 d0
        obtain ⟨A2, xcap, rfl, -, -⟩ := hr.slice
        obtain ⟨A3, ycap, rfl, -, -⟩ := hr'.slice
        have hs1 := Tp.cnt_sub hx
        have HS := Lib.hid (fun wc (hcx : Chg (fun _ => False) wr wc) => (HI0.out) _ _ _ _ _ _ hr hr' wc (hk'.chg hcx (fun k hkB e => e)) (by omega) hal2)
        have HB1 := Lib.hid (fun w => rbits_calls xf hin.f w)
        have HB2 := Lib.hid (fun w => rbits_calls yf hin'.f w)
        rw [← hfb] at HB2
        obtain ⟨bf, hbf⟩ : ∃ bf, Tp.fbits xf = bf := ⟨_, rfl⟩
        rw [hbf] at HB1 HB2
        have hbx := World.block_lt_of_cell? _ _ c0
        have hby := World.block_lt_of_cell? _ _ d0
        have hbx' : gr < wr.heap.size := hbx
        have hby' : gr' < wr.heap.size := hby
        have Hc' := Lib.hid hc'
        clear hbf hfb hal2 hin hin' hcells hcells' hr hr' hk' cx cy hx hy hA hA' hc' hk hs1 hbx hby hgr hgr'
        go_upto_region 6 with fail
        go_cut [6, 7] (fun a b wx => ∃ p q, a = .pointer (some ⟨p, 0, none⟩) ∧ b = .pointer (some ⟨q, 0, none⟩) ∧ Blk wx p 40 #[.int .u8 xk, .bool xb, .int .i64 xn, .float .f64 xf, S xt, .slice A2 xl.length xcap] ∧ Blk wx q 40 #[.int .u8 xk, .bool xb, .int .i64 xn, .float .f64 yf, S xt, .slice A3 yl.length ycap] ∧ Chg (fun _ => False) wr wx)
        case first =>
          go_region_held3 (fun w' => w'.cell? ⟨gr, off + j * 6, none⟩ = some (.int .u8 xk) ∧ w'.cell? ⟨gr, off + j * 6 + 1, none⟩ = some (.bool xb) ∧ w'.cell? ⟨gr, off + j * 6 + 2, none⟩ = some (.int .i64 xn) ∧ w'.cell? ⟨gr, off + j * 6 + 3, none⟩ = some (.float .f64 xf) ∧ w'.cell? ⟨gr, off + j * 6 + 4, none⟩ = some (S xt) ∧ w'.cell? ⟨gr, off + j * 6 + 5, none⟩ = some (.slice A2 xl.length xcap) ∧
              w'.cell? ⟨gr', off' + j * 6, none⟩ = some (.int .u8 xk) ∧ w'.cell? ⟨gr', off' + j * 6 + 1, none⟩ = some (.bool xb) ∧ w'.cell? ⟨gr', off' + j * 6 + 2, none⟩ = some (.int .i64 xn) ∧ w'.cell? ⟨gr', off' + j * 6 + 3, none⟩ = some (.float .f64 yf) ∧ w'.cell? ⟨gr', off' + j * 6 + 4, none⟩ = some (S xt) ∧ w'.cell? ⟨gr', off' + j * 6 + 5, none⟩ = some (.slice A3 yl.length ycap))
            (go_keep) (fail)
          all_goals
            go_wp2_with fail
            go_meet
            first
              | exact ⟨_, _, rfl, rfl, ((Blk.new wr 40 #[.int .u8 xk, .bool xb, .int .i64 xn, .float .f64 xf, S xt, .slice A2 xl.length xcap]).alloc _).drew, (Blk.new' wr _ 40 #[.int .u8 xk, .bool xb, .int .i64 xn, .float .f64 yf, S xt, .slice A3 yl.length ycap]).drew, (((Chg.refl _ wr).alloc _).alloc _).drew⟩
              | exact ⟨_, _, rfl, rfl, (Blk.new' wr _ 40 #[.int .u8 xk, .bool xb, .int .i64 xn, .float .f64 xf, S xt, .slice A2 xl.length xcap]).drew, ((Blk.new wr 40 #[.int .u8 xk, .bool xb, .int .i64 xn, .float .f64 yf, S xt, .slice A3 yl.length ycap]).alloc _).drew, (((Chg.refl _ wr).alloc _).alloc _).drew⟩
        case rest =>
          clear c0 c1 c2 c3 c4 c5 d0 d1 d2 d3 d4 d5
          obtain ⟨p, q, rfl, rfl, bp, bq, hcw⟩ := hcut
          have bp' := bp.drew
          have bq' := bq.drew
          have Hcw := Lib.hid hcw
          have Hcd := Lib.hid hcw.drew
          clear hcw
          go_upto_region 7 with fail
          go_region_held3 (fun w' => w'.cell? ⟨p, 0, none⟩ = some (.int .u8 xk) ∧ w'.cell? ⟨p, 1, none⟩ = some (.bool xb) ∧ w'.cell? ⟨p, 2, none⟩ = some (.int .i64 xn) ∧ w'.cell? ⟨p, 3, none⟩ = some (.float .f64 xf) ∧ w'.cell? ⟨p, 4, none⟩ = some (S xt) ∧ w'.cell? ⟨p, 5, none⟩ = some (.slice A2 xl.length xcap) ∧
              w'.cell? ⟨q, 0, none⟩ = some (.int .u8 xk) ∧ w'.cell? ⟨q, 1, none⟩ = some (.bool xb) ∧ w'.cell? ⟨q, 2, none⟩ = some (.int .i64 xn) ∧ w'.cell? ⟨q, 3, none⟩ = some (.float .f64 yf) ∧ w'.cell? ⟨q, 4, none⟩ = some (S xt) ∧ w'.cell? ⟨q, 5, none⟩ = some (.slice A3 yl.length ycap))
            (first | exact s12 (by assumption) (by assumption))
            (first
              | (go_at_call 34; (with_reducible refine (HB1.out _).mono ?_); rintro e w5 ⟨rfl, rfl⟩)
              | (go_at_call 34; (with_reducible refine (HB2.out _).mono ?_); rintro e w5 ⟨rfl, rfl⟩)
              | (go_at_call 13; (with_reducible refine (HS.out _ Hcd.out).mono ?_); rintro e w5 ⟨rfl, hc5⟩; have b5 := bp'.chg hc5 (fun h => h); have q5 := bq'.chg hc5 (fun h => h)))
          all_goals
            have Hce := Lib.hid (((Hc'.out).trans (Hcd.out)).trans hc5)
            clear hc5 b5 q5 bp bq bp' bq'
            go_wp2_with fail
            go_round
            case rel => exact ⟨j + 1, by omega, by go_num, Hce.out⟩
            case measure => simp [intOf]; omega
      · have hjl : j = l.length := by omega
        have Hc' := Lib.hid hc'
        have hnl : ¬ ((j : Int) < (l.length : Int)) := by omega
        have hnl2 : decide ((j : Int) < (l.length : Int)) = false := by rw [decide_eq_false_iff_not]; omega
        clear hc' hk
        go_wp2_with fail
        go_ret
        exact ⟨rfl, Hc'.out⟩
end Go.Proofs.YtdicelibjpmglaaGreatDoor
