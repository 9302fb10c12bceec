/-
  Layer 3: the walk of TupleDeep.
-/
import Derived.Test.YtdicelibjpmglaaDoorLd
namespace Go.Proofs.YtdicelibjpmglaaDoor
open Go.RowKit
set_option linter.unusedVariables false
set_option linter.unusedSimpArgs false
attribute [local go_sem] run_store_float
open Tp (It)

set_option maxHeartbeats 8000000 in
set_option maxRecDepth 100000 in
theorem tupleDeep_walk (k : Nat) (b : Bool) (z : Int) (f : Nat) (t : List UInt8) (A : Option Addr) (m c : Nat) (ls : List It) (n d : Int) (W : World) (hsh : W.ShapedOpen Tryd.prog)
    (hi : InIt k z f t) (hr : Row W W.heap.size (.slice A m c) ls) (hs : Tp.sz [It.mk k b z f t ls] ≤ 1000000000000) :
    Calls Tryd.prog 5 #[IV k b z f t (.slice A m c), .int .i64 n, .int .i64 d] W fun e w' => e = .returned (.bool true) ∧ Chg (fun _ => False) W w' := by
  obtain ⟨i0, hi0, hz0, hz1, hz2⟩ := info_parts info_item
  obtain ⟨mm, hm⟩ := (Tryd.laysM143).s1_3 W hsh
  have hlt := World.block_lt_of_cell? _ _ hm
  have KK : ∀ w2, Chg (fun _ => False) W w2 → Keep W W.heap.size w2 := fun w2 hc => (Keep.refl W _ (Nat.le_refl _)).chg hc (fun k hkB e => e)
  have AW : ∀ w2, Chg (fun _ => False) W w2 → Calls Tryd.prog 12 #[] w2 fun e w' => e = .returned (.bool true) ∧ Chg (fun _ => False) w2 w' := fun w2 hc => awake_calls w2 mm ((hc.cell hlt (fun h => h)).trans hm)
  have HA := Lib.hid AW
  have Pa := Lib.hid (fun w2 (hc : Chg (fun _ => False) W w2) => (pack_calls (Row.one (Blk.new w2 37 #[.int .u8 k, .bool b, .int .i64 z, .float .f64 f, S t, .slice A m c]) hi (hr.of_keep ((KK w2 hc).chg ((Chg.refl (fun _ => False) w2).alloc _) (fun k _ e => e))) hc.size) ⟨⟨mm, ((hc.alloc _).cell hlt (fun h => h)).trans hm⟩, Nat.lt_succ_of_lt (Nat.lt_of_lt_of_le hlt hc.size)⟩ _ (Keep.refl _ _ (by simp)) hs))
  have Ca := Lib.hid (fun w2 (hc : Chg (fun _ => False) W w2) => (check_calls (Row.one (Blk.new w2 37 #[.int .u8 k, .bool b, .int .i64 z, .float .f64 f, S t, .slice A m c]) hi (hr.of_keep ((KK w2 hc).chg ((Chg.refl (fun _ => False) w2).alloc _) (fun k _ e => e))) hc.size) _ (Keep.refl _ _ (by simp)) hs))
  obtain ⟨e, he⟩ : ∃ e, Tp.check [It.mk k b z f t ls] = e := ⟨_, rfl⟩
  obtain ⟨p, hp⟩ : ∃ p, Tp.pack [It.mk k b z f t ls] = p := ⟨_, rfl⟩
  have Hok : e = 0 → k ≠ 6 → Tp.mayB k b z f t [] = true ∧ ls = [] ∧ p.length = Tp.len1 k z t ∧ p.length ≤ 4096 := fun h0 h6 => by
    obtain ⟨h1, h2, h3, h4⟩ := Tp.check_ok (he.trans h0)
    obtain ⟨h5, -⟩ := Tp.okB_mem h3 (List.mem_singleton.2 rfl)
    have h7 := Tp.mayB_list h5 h6
    subst h7
    have h8 : p = Tp.byt [It.mk k b z f t []] := by rw [← hp]; unfold Tp.pack; rw [he, if_pos h0]
    refine ⟨h5, rfl, ?_, by rw [h8]; exact h4⟩
    rw [h8, Tp.byt_length _ 0 0 0 h1]
    simp [Tp.sz]
  have Hok := Lib.hid Hok
  rw [he, hp] at Pa
  rw [he] at Ca
  have Hhi := Lib.hid hi
  have hs0 : Chg (fun _ => False) W (W.alloc (.cells #[.int .u8 k, .bool b, .int .i64 z, .float .f64 f, S t, .slice A m c] 37)) := (Chg.refl _ W).alloc _
  have Hs := Lib.hid hs0
  have Na := Lib.hid (Blk.new W 37 #[.int .u8 k, .bool b, .int .i64 z, .float .f64 f, S t, .slice A m c])
  have Hr := Lib.hid hr
  clear hm hlt KK AW hsh hs0 he hp hi hr hs
  by_cases hgood : e = 0 ∧ k ≠ 6 ∧ (0 ≤ n ∧ n ≤ 100) ∧ (0 ≤ d ∧ d ≤ 20)
  · obtain ⟨h0, h6, ⟨hn0, hn1⟩, hd0, hd1⟩ := hgood
    obtain ⟨hmay, rfl, hpl, hpl2⟩ := Hok.out h0 h6
    subst h0
    have k6 : ((k : Int) == 6) = false := by rw [beq_eq_false_iff_ne]; omega
    have g1 : decide (n < 0) = false := by rw [decide_eq_false_iff_not]; omega
    have g2 : decide (100 < n) = false := by rw [decide_eq_false_iff_not]; omega
    have g3 : decide (d < 0) = false := by rw [decide_eq_false_iff_not]; omega
    have g4 : decide (20 < d) = false := by rw [decide_eq_false_iff_not]; omega
    obtain ⟨N, hN⟩ : ∃ N : Nat, n = N := ⟨n.toNat, by omega⟩
    obtain ⟨D, hD⟩ : ∃ D : Nat, d = D := ⟨d.toNat, by omega⟩
    have bN : N ≤ 100 := by omega
    have bD : D ≤ 20 := by omega
    have HN := Lib.hid hN
    have HD := Lib.hid hD
    have Hmay := Lib.hid hmay
    have H6 := Lib.hid h6
    have Hpl := Lib.hid hpl
    clear hN hD hmay h6 hpl Hok
    go_enter Tryd.func5, Tryd.ntmps5
    go_wp2_with fail
    refine (HA.out _ Hs.out).mono ?_
    rintro e w1 ⟨rfl, q⟩
    have h1 := (Hs.out).trans q
    have ha := (Na.out).chg q (fun h => h)
    have d0 : w1.cell? ⟨W.heap.size, 0, none⟩ = some (.int .u8 k) := by rw [ha.cell]; rfl
    have d1 : w1.cell? ⟨W.heap.size, 1, none⟩ = some (.bool b) := by rw [ha.cell]; rfl
    have d2 : w1.cell? ⟨W.heap.size, 2, none⟩ = some (.int .i64 z) := by rw [ha.cell]; rfl
    have d3 : w1.cell? ⟨W.heap.size, 3, none⟩ = some (.float .f64 f) := by rw [ha.cell]; rfl
    have d4 : w1.cell? ⟨W.heap.size, 4, none⟩ = some (S t) := by rw [ha.cell]; rfl
    have d5 : w1.cell? ⟨W.heap.size, 5, none⟩ = some (.slice A m c) := by rw [ha.cell]; rfl
    have Ha := Lib.hid ha
    clear q ha
    go_wp2_with fail
    refine (Pa.out _ h1).mono ?_
    rintro e w2 ⟨rfl, q⟩
    have h2 := (h1.alloc _).trans q
    have ha := ((Ha.out).alloc _).chg q (fun h => h)
    clear d0 d1 d2 d3 d4 d5
    have d0 : w2.cell? ⟨W.heap.size, 0, none⟩ = some (.int .u8 k) := by rw [ha.cell]; rfl
    have Ha := Lib.hid ha
    have H2 := Lib.hid h2
    clear q ha h1 h2
    go_wp2_with fail
    have hd1 : 0 ≤ d ∧ d ≤ 20 := ⟨hd0, hd1⟩
    go_loopw [9, 10] (fun lv iv wr => ∃ i : Nat, i ≤ N ∧ iv = .int .i64 i ∧ wr.ownsRow (W.heap.size + 1) 37 6 lv i (ics (List.replicate i (It.mk k b z f t [])) (List.replicate i (.slice A m c))) ∧
      Blk wr W.heap.size 37 #[.int .u8 k, .bool b, .int .i64 z, .float .f64 f, S t, .slice A m c] ∧ Chg (fun _ => False) W wr) (fun _ iv _ => N - (intOf iv).toNat)
    case atStart => exact ⟨0, by omega, rfl, World.ownsRow_nil _ _ _ _, Ha.out, H2.out⟩
    case round =>
      obtain ⟨i, hi, rfl, hown, hb, hc⟩ := hrel
      have hsz := hb.lt
      have hN := HN.out
      rcases Nat.lt_or_ge i N with hlt | hge
      · have r1 : decide ((i : Int) < n) = true := by rw [decide_eq_true_iff]; omega
        have e0 : wr.cell? ⟨W.heap.size, 0, none⟩ = some (.int .u8 k) := by rw [hb.cell]; rfl
        have e1 : wr.cell? ⟨W.heap.size, 1, none⟩ = some (.bool b) := by rw [hb.cell]; rfl
        have e2 : wr.cell? ⟨W.heap.size, 2, none⟩ = some (.int .i64 z) := by rw [hb.cell]; rfl
        have e3 : wr.cell? ⟨W.heap.size, 3, none⟩ = some (.float .f64 f) := by rw [hb.cell]; rfl
        have e4 : wr.cell? ⟨W.heap.size, 4, none⟩ = some (S t) := by rw [hb.cell]; rfl
        have e5 : wr.cell? ⟨W.heap.size, 5, none⟩ = some (.slice A m c) := by rw [hb.cell]; rfl
        have Hb := Lib.hid hb
        have Hc := Lib.hid hc
        have Hown := Lib.hid hown
        clear hb hc hown d0 hN
        go_wp2_with (at_builtin; refine wpList_append_any _ rfl (.tmp 54) (.tmp 56) _ rfl (W.heap.size + 1) 37 i0 _ 6 64 Tryd.underlying22 hi0 hz0 hz1 hz2 rfl (by omega) _ i _ rfl ((Hown.out).alloc _) (wr.heap.size + 1) (some ⟨wr.heap.size, 0, none⟩) 1 1 (icells k b z f t (.slice A m c)) rfl (Reads.item wr _ _ rfl rfl) (by simp [Value.oneCell', icells]) (by unfold maxLen; omega) (by omega) (by simp; omega) ?_; intro v4 w4 hown4 hgr4 hat; obtain ⟨g4, cap4, rfl, -, -⟩ := hown4.form (by omega))
        go_roundw
        case rel =>
          have hN := HN.out
          have hc4 : Chg (fun j => W.heap.size + 1 ≤ j) wr w4 := ((Chg.refl _ wr).alloc _).grown hgr4 (fun j hj => .inl ((Hown.out).lt j hj).1)
          refine ⟨i + 1, by omega, by go_num, ?_, (Hb.out).chg hc4 (by omega), (Hc.out).andThen hc4 (fun j hj e => by omega)⟩
          rw [← ics_rep_snoc]
          exact hown4
        case measure => simp [intOf]; omega
      · have hiN : i = N := by omega
        have r1 : decide ((i : Int) < n) = false := by rw [decide_eq_false_iff_not]; omega
        rw [hiN] at hown
        have hrow := Row.own hown (List.length_replicate).symm (by simp) (by rw [List.length_replicate]; omega)
          (fun k' b' n' f' t' ls' hm => by
            have := (List.mem_replicate.1 hm).2
            injection this with e1 e2 e3 e4 e5 e6
            subst e1 e2 e3 e4 e5 e6
            exact Hhi.out)
          (fun j k' b' n' f' t' ls' v' hj1 hj2 => by
            have a1 := (List.mem_replicate.1 (List.mem_of_getElem? hj1)).2
            have a2 := (List.mem_replicate.1 (List.mem_of_getElem? hj2)).2
            injection a1 with e1 e2 e3 e4 e5 e6
            subst e1 e2 e3 e4 e5 e6 a2
            exact ((Hr.out).chg (Nat.le_refl _) hc (fun _ _ h => h)).mono hc.size)
        have Hrow := Lib.hid hrow
        have Hc := Lib.hid hc
        clear hrow hb hc hown d0 hN hiN
        go_wp2_with fail
        go_loopw [9, 11] (fun lv iv wx => ∃ i : Nat, i ≤ D ∧ iv = .int .i64 i ∧ Row wx wx.heap.size lv (Tp.wrap i (List.replicate N (It.mk k b z f t []))) ∧ Chg (fun _ => False) W wx) (fun _ iv _ => D - (intOf iv).toNat)
        case atStart => exact ⟨0, by omega, rfl, Hrow.out, Hc.out⟩
        case round =>
          obtain ⟨j, hj, rfl, hrow, hc⟩ := hrel
          have hD := HD.out
          rcases Nat.lt_or_ge j D with hlt | hgeD
          · have r2 : decide ((j : Int) < d) = true := by rw [decide_eq_true_iff]; omega
            obtain ⟨A2, c2, rfl, -, -⟩ := hrow.slice
            have Hro := Lib.hid hrow
            have Hc2 := Lib.hid hc
            clear hrow hc hD
            go_wp2_with fail
            go_round
            case rel =>
              refine ⟨j + 1, by omega, by go_num, ?_, (Hc2.out).alloc _⟩
              have := Row.one (Blk.new wr 37 #[.int .u8 6, .bool false, .int .i64 0, .float .f64 0, S [], .slice A2 (Tp.wrap j (List.replicate N (It.mk k b z f t []))).length c2]) (k := 6) (b := false) (n := 0) (f := 0) (t := []) ⟨by omega, by omega, by omega, by unfold U64; omega, by simp⟩ ((Hro.out).chg (Nat.le_refl _) ((Chg.refl (fun _ => False) wr).alloc _) (fun _ _ h => h)) (Nat.le_refl _)
              simpa [Tp.wrap] using this
            case measure => simp [intOf]; omega
          · have hjD : j = D := by omega
            have r2 : decide ((j : Int) < d) = false := by rw [decide_eq_false_iff_not]; omega
            rw [hjD] at hrow
            have Hro := Lib.hid hrow
            have Hc2 := Lib.hid hc
            have hck := Tp.deep_check (Hmay.out) (H6.out) N D
            have hmul : N * p.length ≤ 100 * 4096 := Nat.mul_le_mul bN hpl2
            rw [← Hpl.out] at hck
            have hsz2 : Tp.sz (Tp.wrap D (List.replicate N (It.mk k b z f t []))) ≤ 1000000000000 := by
              rw [Tp.sz_wrap, Tp.sz_rep, ← Hpl.out]
              omega
            have CC := Lib.hid (check_calls (Hro.out) wr (Keep.refl wr _ (Nat.le_refl _)) hsz2)
            obtain ⟨A2, c2, hform, -, -⟩ := hrow.slice
            subst hform
            obtain ⟨y, hy⟩ : ∃ y, Tp.check (Tp.wrap D (List.replicate N (It.mk k b z f t []))) = y := ⟨_, rfl⟩
            rw [hy] at CC hck
            have hN := HN.out
            obtain ⟨Z, hZ⟩ : ∃ Z : Int, n * (p.length : Int) = Z := ⟨_, rfl⟩
            have hZN : Z = ((N * p.length : Nat) : Int) := by rw [← hZ, hN, Int.natCast_mul]
            have hZ0 : 0 ≤ Z := by omega
            have hZ1 : Z ≤ 409600 := by omega
            have wz : IntKind.i64.wrap (n * (p.length : Int)) = Z := by rw [hZ]; exact IntWalk.i64_in _ (by omega)
            have wz2 : wrap64 (n * (p.length : Int)) = Z := by rw [hZ]; unfold wrap64; omega
            have s5 : IntKind.i64.wrap (n + d) = n + d := IntWalk.i64_in _ (by omega)
            have s6 : IntKind.i64.wrap (2 * d) = 2 * d := IntWalk.i64_in _ (by omega)
            have s7 : IntKind.i64.wrap (Z + 2 * d) = Z + 2 * d := IntWalk.i64_in _ (by omega)
            by_cases c1 : 8 < D
            · rw [if_pos c1] at hck
              have s1 : decide (8 < d) = true := by rw [decide_eq_true_iff]; omega
              subst hck
              clear hrow hc hN hD hy hjD hZN hgeD hj hmul c1 hsz2
              go_wp2_with fail
              refine (CC.out).mono ?_
              rintro e w5 ⟨rfl, hc5⟩
              go_wp2_with fail
              go_ret
              exact ⟨rfl, (Hc2.out).trans hc5⟩
            · rw [if_neg c1] at hck
              have s1 : decide (8 < d) = false := by rw [decide_eq_false_iff_not]; omega
              by_cases c2 : 64 < N + D
              · rw [if_pos c2] at hck
                have s2 : decide (64 < n + d) = true := by rw [decide_eq_true_iff]; omega
                subst hck
                clear hrow hc hN hD hy hjD hZN hgeD hj hmul c1 c2 hsz2
                go_wp2_with fail
                refine (CC.out).mono ?_
                rintro e w5 ⟨rfl, hc5⟩
                go_wp2_with fail
                go_ret
                exact ⟨rfl, (Hc2.out).trans hc5⟩
              · rw [if_neg c2] at hck
                have s2 : decide (64 < n + d) = false := by rw [decide_eq_false_iff_not]; omega
                by_cases c3 : 4096 < N * p.length + 2 * D
                · rw [if_pos c3] at hck
                  have s3 : decide (4096 < Z + 2 * d) = true := by rw [decide_eq_true_iff]; omega
                  subst hck
                  clear hrow hc hN hD hy hjD hZN hgeD hj hmul c1 c2 c3 hsz2
                  go_wp2_with fail
                  refine (CC.out).mono ?_
                  rintro e w5 ⟨rfl, hc5⟩
                  go_wp2_with fail
                  go_ret
                  exact ⟨rfl, (Hc2.out).trans hc5⟩
                · rw [if_neg c3] at hck
                  have s3 : decide (4096 < Z + 2 * d) = false := by rw [decide_eq_false_iff_not]; omega
                  subst hck
                  clear hrow hc hN hD hy hjD hZN hgeD hj hmul c1 c2 c3 hsz2
                  go_wp2_with fail
                  refine (CC.out).mono ?_
                  rintro e w5 ⟨rfl, hc5⟩
                  go_wp2_with fail
                  go_ret
                  exact ⟨rfl, (Hc2.out).trans hc5⟩
  · have hcase : (∃ y1 : (e != 0) = true, (e == 0) = false) ∨ (e = 0 ∧ ((k : Int) == 6) = true) ∨ (e = 0 ∧ ((k : Int) == 6) = false ∧ decide (n < 0) = true) ∨ (e = 0 ∧ ((k : Int) == 6) = false ∧ decide (n < 0) = false ∧ decide (100 < n) = true) ∨
        (e = 0 ∧ ((k : Int) == 6) = false ∧ decide (n < 0) = false ∧ decide (100 < n) = false ∧ decide (d < 0) = true) ∨ (e = 0 ∧ ((k : Int) == 6) = false ∧ decide (n < 0) = false ∧ decide (100 < n) = false ∧ decide (d < 0) = false ∧ decide (20 < d) = true) := by
      by_cases h0 : e = 0
      · by_cases h6 : k = 6
        · exact .inr (.inl ⟨h0, by rw [beq_iff_eq]; omega⟩)
        · have k6 : ((k : Int) == 6) = false := by rw [beq_eq_false_iff_ne]; omega
          simp only [h0, k6, true_and, decide_eq_true_eq, decide_eq_false_iff_not]
          have := hgood
          refine .inr (.inr ?_)
          omega
      · exact .inl ⟨by simpa using h0, by simpa using h0⟩
    clear hgood Hok
    rcases hcase with ⟨y1, y2⟩ | ⟨rfl, y1⟩ | ⟨rfl, y1, y2⟩ | ⟨rfl, y1, y2, y3⟩ | ⟨rfl, y1, y2, y3, y4⟩ | ⟨rfl, y1, y2, y3, y4, y5⟩
    all_goals
      go_enter Tryd.func5, Tryd.ntmps5
      go_wp2_with fail
      refine (HA.out _ Hs.out).mono ?_
      rintro e w1 ⟨rfl, q⟩
      have h1 := (Hs.out).trans q
      have ha := (Na.out).chg q (fun h => h)
      have d0 : w1.cell? ⟨W.heap.size, 0, none⟩ = some (.int .u8 k) := by rw [ha.cell]; rfl
      have d1 : w1.cell? ⟨W.heap.size, 1, none⟩ = some (.bool b) := by rw [ha.cell]; rfl
      have d2 : w1.cell? ⟨W.heap.size, 2, none⟩ = some (.int .i64 z) := by rw [ha.cell]; rfl
      have d3 : w1.cell? ⟨W.heap.size, 3, none⟩ = some (.float .f64 f) := by rw [ha.cell]; rfl
      have d4 : w1.cell? ⟨W.heap.size, 4, none⟩ = some (S t) := by rw [ha.cell]; rfl
      have d5 : w1.cell? ⟨W.heap.size, 5, none⟩ = some (.slice A m c) := by rw [ha.cell]; rfl
      have Ha := Lib.hid ha
      clear q ha
      go_wp2_with fail
      refine (Pa.out _ h1).mono ?_
      rintro e w2 ⟨rfl, q⟩
      have h2 := (h1.alloc _).trans q
      have ha := ((Ha.out).alloc _).chg q (fun h => h)
      clear d0 d1 d2 d3 d4 d5
      have d0 : w2.cell? ⟨W.heap.size, 0, none⟩ = some (.int .u8 k) := by rw [ha.cell]; rfl
      have d1 : w2.cell? ⟨W.heap.size, 1, none⟩ = some (.bool b) := by rw [ha.cell]; rfl
      have d2 : w2.cell? ⟨W.heap.size, 2, none⟩ = some (.int .i64 z) := by rw [ha.cell]; rfl
      have d3 : w2.cell? ⟨W.heap.size, 3, none⟩ = some (.float .f64 f) := by rw [ha.cell]; rfl
      have d4 : w2.cell? ⟨W.heap.size, 4, none⟩ = some (S t) := by rw [ha.cell]; rfl
      have d5 : w2.cell? ⟨W.heap.size, 5, none⟩ = some (.slice A m c) := by rw [ha.cell]; rfl
      clear q ha
      go_wp2_with fail
      refine (Ca.out _ h2).mono ?_
      rintro e w3 ⟨rfl, q⟩
      go_wp2_with fail
      go_ret
      exact ⟨rfl, (h2.alloc _).trans q⟩

theorem tupleDeep_walk' (k : Nat) (b : Bool) (z : Int) (f : Nat) (t : List UInt8) (u : Value) (ls : List It) (n d : Int) (W : World) (hsh : W.ShapedOpen Tryd.prog)
    (hi : InIt k z f t) (hr : Row W W.heap.size u ls) (hs : Tp.sz [It.mk k b z f t ls] ≤ 1000000000000) :
    Calls Tryd.prog 5 #[IV k b z f t u, .int .i64 n, .int .i64 d] W fun e w' => e = .returned (.bool true) ∧ Chg (fun _ => False) W w' := by
  obtain ⟨A, c, rfl, -, -⟩ := hr.slice
  exact tupleDeep_walk k b z f t _ _ _ ls n d W hsh hi hr hs
end Go.Proofs.YtdicelibjpmglaaDoor
