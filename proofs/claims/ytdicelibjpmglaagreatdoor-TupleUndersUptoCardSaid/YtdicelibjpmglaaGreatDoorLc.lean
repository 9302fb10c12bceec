/-
  Layer 3: is a lent row as it was (kept); the walk of TupleChecks.
-/
import Derived.Test.YtdicelibjpmglaaGreatDoorLk
import Derived.Test.YtdicelibjpmglaaGreatDoorTu
import Derived.BigQuiet
import Derived.Deep.QuietTactic
namespace Go.Proofs.YtdicelibjpmglaaGreatDoor
open Go.RowKit
set_option linter.unusedVariables false
set_option linter.unusedSimpArgs false
attribute [local go_sem] run_store_float
open Tp (It)

theorem ics_length : ∀ (l : List It) (vs : List Value), vs.length = l.length → (ics l vs).length = l.length * 6
  | [], [], _ => rfl
  | [], _ :: _, h => by simp at h
  | _ :: _, [], h => by simp at h
  | x :: l, v :: vs, h => by
    have := ics_length l vs (by simpa using h)
    have hy : (ic x v).length = 6 := by obtain ⟨k, b, n, f, t, ls⟩ := x; rfl
    simp only [ics, List.length_append, hy, this, List.length_cons]; omega
theorem marks_at {i q : Nat} {u : Value} (hi : i < 5) (hu : (mark i)[q]? = some u) : (marks 5)[i * 6 + q]? = some u := by
  have hq : q < 6 := by have := (List.getElem?_eq_some_iff.1 hu).1; simpa [mark, icells] using this
  have e : marks 5 = mark 0 ++ (mark 1 ++ (mark 2 ++ (mark 3 ++ (mark 4 ++ [])))) := by simp [marks, List.range, List.range.loop, List.flatMap]
  have hl : ∀ j, (mark j).length = 6 := fun j => rfl
  rw [e]
  rcases (show i = 0 ∨ i = 1 ∨ i = 2 ∨ i = 3 ∨ i = 4 by omega) with rfl | rfl | rfl | rfl | rfl
  · rw [List.getElem?_append_left (by rw [hl]; omega)]; simpa using hu
  · rw [List.getElem?_append_right (by rw [hl]; omega), hl, List.getElem?_append_left (by rw [hl]; omega), show 1 * 6 + q - 6 = q by omega]; exact hu
  · rw [List.getElem?_append_right (by rw [hl]; omega), hl, List.getElem?_append_right (by rw [hl]; omega), hl, List.getElem?_append_left (by rw [hl]; omega), show 2 * 6 + q - 6 - 6 = q by omega]; exact hu
  · rw [List.getElem?_append_right (by rw [hl]; omega), hl, List.getElem?_append_right (by rw [hl]; omega), hl, List.getElem?_append_right (by rw [hl]; omega), hl, List.getElem?_append_left (by rw [hl]; omega), show 3 * 6 + q - 6 - 6 - 6 = q by omega]; exact hu
  · rw [List.getElem?_append_right (by rw [hl]; omega), hl, List.getElem?_append_right (by rw [hl]; omega), hl, List.getElem?_append_right (by rw [hl]; omega), hl, List.getElem?_append_right (by rw [hl]; omega), hl, List.getElem?_append_left (by rw [hl]; omega), show 4 * 6 + q - 6 - 6 - 6 - 6 = q by omega]; exact hu
theorem Row.here {w w' : World} {v : Value} {l : List It} (h : Row w w.heap.size v l) (hc : Chg (fun _ => False) w w') : Row w' w'.heap.size v l :=
  (h.chg (Nat.le_refl _) hc (fun _ _ h => h)).mono hc.size

set_option maxHeartbeats 8000000 in
set_option maxRecDepth 100000 in
theorem kept_calls : ∀ (N : Nat) (w : World) (B : Nat) (v v0 : Value) (l : List It) (hlent : Lent w B v l) (hrow0 : Row w w.heap.size v0 l), Tp.cnt l < N →
    Calls Tryz.prog 20 #[v, v0] w fun e w' => e = .returned (.bool true) ∧ Chg (fun _ => False) w w' := by
  intro N
  induction N with
  | zero => intro w B v v0 l hlent hrow0 hN; omega
  | succ N ihN =>
    intro w B v v0 l hlent hrow0 hN
    have HS := Lib.hid (same_calls _ _ _ _ _ _ _ hlent.row hrow0 w (Keep.refl w _ (Nat.le_refl _)) (Nat.lt_succ_self _) (Tp.alike_refl l))
    obtain ⟨A0, cap0, rfl, -, -⟩ := hrow0.slice
    have Hrow0 := Lib.hid hrow0
    cases hlent with
    | mk _ g cap _ vs hB hl hlen hin own hr0 hr =>
    have hgl := (own.lt g rfl).2
    have hcap : l.length + 5 ≤ cap ∧ cap ≤ maxLen := by
      rcases own.2 with ⟨h, -⟩ | ⟨g', cap', cur, h, -, -, hc, hcm, -⟩
      · cases h
      · injection h with h1 h2 h3; omega
    obtain ⟨hcap, hcm⟩ := hcap
    have hadd : ∀ j, (⟨g, 0, none⟩ : Addr).add j = ⟨g, j, none⟩ := fun j => by unfold Addr.add; split <;> simp_all
    have hmk : ∀ (i q : Nat) (u : Value), i < 5 → (mark i)[q]? = some u → w.cell? ⟨g, (l.length + i) * 6 + q, none⟩ = some u := fun i q u hi hu => by
      have h1 := marks_at hi hu
      have h2 := own.cells (g := g) rfl ((l.length + i) * 6 + q) u (by
        rw [List.getElem?_append_right (by rw [ics_length l vs hl]; omega), ics_length l vs hl, show (l.length + i) * 6 + q - l.length * 6 = i * 6 + q by omega]
        exact h1)
      rwa [hadd] at h2
    have hls : ∀ (i k : Nat) (b : Bool) (n : Int) (f : Nat) (t : List UInt8) (ls : List It) (v : Value), l[i]? = some (It.mk k b n f t ls) → vs[i]? = some v → w.cell? ⟨g, i * 6 + 5, none⟩ = some v := fun i k b n f t ls v h1 h2 => by
      have h3 := ics_at l vs hl i _ v h1 h2 5 v rfl
      have h4 := own.cells (g := g) rfl (i * 6 + 5) v (by rw [List.getElem?_append_left (List.getElem?_eq_some_iff.1 h3).1]; exact h3)
      rwa [hadd] at h4
    have Hmk := Lib.hid hmk
    have Hls := Lib.hid hls
    have Hvl := Lib.hid hl
    have Hr0 := Lib.hid hr0
    have Hr := Lib.hid hr
    have HI0 := Lib.hid ihN
    have hwl : IntKind.i64.wrap ((l.length : Int) + 5) = ((l.length + 5 : Nat) : Int) := by rw [IntWalk.i64_in _ (by omega)]; rfl
    unfold maxLen at hcm
    clear hrow0 own hin hmk hls hl hr0 hr ihN
    go_enter Tryz.func20, Tryz.ntmps20
    go_wp2_with fail
    refine HS.out.mono ?_
    rintro e w1 ⟨rfl, hc1⟩
    have Hc1 := Lib.hid hc1
    clear hc1
    go_wp2_with fail
    go_loopw [6] (fun iv wr => ∃ i : Nat, i ≤ 5 ∧ iv = .int .i64 i ∧ Chg (fun _ => False) w wr) (fun iv _ => 5 - (intOf iv).toNat)
    case atStart => exact ⟨0, by omega, rfl, Hc1.out⟩
    case round =>
      obtain ⟨i, hi, rfl, hc⟩ := hrel
      rcases Nat.lt_or_ge i 5 with hlt | hge
      · have hm : ∀ (q : Nat) (u : Value), (mark i)[q]? = some u → wr.cell? ⟨g, (l.length + i) * 6 + q, none⟩ = some u := fun q u hu => (hc.cell (p := ⟨g, (l.length + i) * 6 + q, none⟩) hgl (fun h => h)).trans ((Hmk.out) i q u hlt hu)
        obtain ⟨jj, hjj⟩ : ∃ jj, jj = l.length + i := ⟨_, rfl⟩
        have hwi : IntKind.i64.wrap ((l.length : Int) + (i : Int)) = (jj : Int) := by rw [IntWalk.i64_in _ (by omega)]; omega
        have hjl : jj < l.length + 5 := by omega
        have hji : (jj : Int) < (l.length : Int) + 5 := by omega
        rw [← hjj] at hm
        have m0 := hm 0 _ rfl
        have m1 := hm 1 _ rfl
        have m2 := hm 2 _ rfl
        have m3 := hm 3 _ rfl
        have m4 := hm 4 _ rfl
        have m5 := hm 5 _ rfl
        rw [Nat.add_zero] at m0
        have Hc := Lib.hid hc
        clear hm hc hjj
        go_wp2_with fail
        go_round
        case rel => exact ⟨i + 1, by omega, by go_num, (Hc.out).alloc _⟩
        case measure => simp [intOf]; omega
      · have hi5 : decide ((i : Int) < 5) = false := by rw [decide_eq_false_iff_not]; omega
        have hi6 : decide (i < 5) = false := by rw [decide_eq_false_iff_not]; omega
        have hi7 : ¬ i < 5 := by omega
        have Hc := Lib.hid hc
        clear hc
        go_wp2_with fail
        go_loopw [8] (fun jv wx => ∃ j : Nat, j ≤ l.length ∧ jv = .int .i64 j ∧ Chg (fun _ => False) w wx) (fun jv _ => l.length - (intOf jv).toNat)
        case atStart => exact ⟨0, by omega, rfl, Hc.out⟩
        case round =>
          obtain ⟨j, hj, rfl, hc⟩ := hrel
          rcases Nat.lt_or_ge j l.length with hlt | hge
          · obtain ⟨⟨xk, xb, xn, xf, xt, xl⟩, hx⟩ : ∃ x, l[j]? = some x := ⟨_, List.getElem?_eq_getElem hlt⟩
            obtain ⟨xv, hxv⟩ : ∃ v, vs[j]? = some v := ⟨_, List.getElem?_eq_getElem (by have := Hvl.out; omega)⟩
            obtain ⟨gr, off, cap2, uv, hA, hgr, hin, hcells, hr⟩ := Hrow0.out.get hx
            obtain ⟨rfl, rfl⟩ : A0 = some ⟨gr, off, none⟩ ∧ cap0 = cap2 := by injection hA with a1 a2 a3; exact ⟨a1, a3⟩
            have l5 : wr.cell? ⟨g, j * 6 + 5, none⟩ = some xv := (hc.cell (p := ⟨g, j * 6 + 5, none⟩) hgl (fun h => h)).trans ((Hls.out) j xk xb xn xf xt xl xv hx hxv)
            have u5 : wr.cell? ⟨gr, off + j * 6 + 5, none⟩ = some uv := (hc.cell (p := ⟨gr, off + j * 6 + 5, none⟩) hgr (fun h => h)).trans (hcells 5 _ rfl)
            have hs1 := Tp.cnt_sub hx
            have Hx := Lib.hid hx
            have Hxv := Lib.hid hxv
            have hr' := hr.here hc
            have HK := Lib.hid (fun (hv : xv ≠ .slice none 0 0) wc (hcx : Chg (fun _ => False) wr wc) => (HI0.out) wc (g + 1) xv uv xl (((Hr.out) j xk xb xn xf xt xl xv hx hxv hv).keep (hc.trans hcx) (fun _ _ h => h)) (hr'.here hcx) (by omega))
            have Hc := Lib.hid hc
            obtain ⟨A3, ucap, rfl, -, -⟩ := hr.slice
            clear hx hxv hin hcells hr hr' hs1 hc hA
            by_cases hv : xv = .slice none 0 0
            · subst hv
              clear HK
              go_upto_region 13 with fail
              go_quiet (fail)
              go_wp2_with fail
              go_round
              case rel => exact ⟨j + 1, by omega, by go_num, (Hc.out).drewN _⟩
              case measure => simp [intOf]; omega
            · have hform : ∃ g2 c2, xv = .slice (some ⟨g2, 0, none⟩) xl.length c2 := ((Hr.out) j xk xb xn xf xt xl xv Hx.out Hxv.out hv).form
              have HK := Lib.hid ((HK.out) hv)
              obtain ⟨g2, c2, rfl⟩ := hform
              clear hv
              have Hd := Lib.hid (Chg.refl (fun _ => False) wr).drew
              go_upto_region 13 with fail
              go_region_held3 (fun w' => w'.cell? ⟨g, j * 6 + 5, none⟩ = some (.slice (some ⟨g2, 0, none⟩) xl.length c2) ∧ w'.cell? ⟨gr, off + j * 6 + 5, none⟩ = some (.slice A3 xl.length ucap))
                (first | exact ⟨by assumption, by assumption⟩ | go_keep)
                ((go_at_call 20; (with_reducible refine (HK.out _ Hd.out).mono ?_); rintro e w5 ⟨rfl, hc5⟩; have l5' := keepCell' hc5 (fun h => h) (show wr.drew.cell? ⟨g, j * 6 + 5, none⟩ = _ from l5); have u5' := keepCell' hc5 (fun h => h) (show wr.drew.cell? ⟨gr, off + j * 6 + 5, none⟩ = _ from u5)))
              all_goals
                have Hce := Lib.hid (((Hc.out).trans (Hd.out)).trans hc5)
                clear hc5 l5' u5'
                go_wp2_with fail
                go_round
                case rel => exact ⟨j + 1, by omega, by go_num, Hce.out⟩
                case measure => simp [intOf]; omega
          · have hjl : j = l.length := by omega
            have Hc := Lib.hid hc
            have hnl : ¬ ((j : Int) < (l.length : Int)) := by omega
            have hnl2 : decide ((j : Int) < (l.length : Int)) = false := by rw [decide_eq_false_iff_not]; omega
            clear hc
            go_wp2_with fail
            go_ret
            exact ⟨rfl, Hc.out⟩

end Go.Proofs.YtdicelibjpmglaaGreatDoor
