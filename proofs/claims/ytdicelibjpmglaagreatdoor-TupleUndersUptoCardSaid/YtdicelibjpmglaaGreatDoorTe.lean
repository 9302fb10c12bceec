/-
  Layer 3: the document's walk.
-/
import Derived.Test.YtdicelibjpmglaaGreatDoorTd
namespace Go.Proofs.YtdicelibjpmglaaGreatDoor
open Go.RowKit
set_option linter.unusedVariables false
set_option linter.unusedSimpArgs false
attribute [local go_sem] run_store_float
open Tp (It)

theorem ret_two {a b c d : Int} (h1 : a = c) (h2 : b = d) : Ending.returned (.tuple #[.int .i64 a, .int .i64 b]) = .returned (.tuple #[.int .i64 c, .int .i64 d]) := by rw [h1, h2]

set_option maxHeartbeats 8000000 in
set_option maxRecDepth 100000 in
theorem rwalk_calls {w0 : World} {B : Nat} {v : Value} {l : List It} (hrow : Row w0 B v l) : ∀ (w : World), Keep w0 B w → ∀ (i s d : Nat), i ≤ 64 → d ≤ 9 → (d ≤ 8 ∨ l = []) →
    Calls Tryz.prog 62 #[v, .int .i64 d, .int .i64 i] w fun e w' => e = .returned (.tuple #[.int .i64 (Tp.look l d i s).1, .int .i64 (Tp.look l d i s).2.2]) ∧ Chg (fun _ => False) w w' := by
  induction hrow with
  | nil A0 cap0 hcap0 =>
    intro w hk i s d hi hd hd2
    go_enter Tryz.func62, Tryz.ntmps62
    go_wp2_with fail
    go_loopw [2, 8] (fun nv jv wr => nv = .int .i64 i ∧ jv = .int .i64 0 ∧ wr = w) (fun _ _ _ => 0)
    case atStart => exact ⟨rfl, rfl, rfl⟩
    case round =>
      obtain ⟨rfl, rfl, rfl⟩ := hrel
      go_wp2_with fail
      refine bodyPost_ret (results_tmp2 rfl _ _ _) rfl ?_
      exact ⟨by simp [Tp.look], Chg.refl _ _⟩
  | mk gr off cap l vs hgr hl hcap hc1 hin hcells hr ih =>
    intro w hk i s d hi hd hd2
    go_enter Tryz.func62, Tryz.ntmps62
    go_wp2_with fail
    go_loopw [2, 8] (fun nv jv wr => ∃ (j i' s' : Nat), j ≤ l.length ∧ nv = .int .i64 i' ∧ jv = .int .i64 j ∧ i' ≤ 64 ∧ Tp.look l d i s = Tp.look (l.drop j) d i' s' ∧ Chg (fun _ => False) w wr) (fun _ jv _ => l.length - (intOf jv).toNat)
    case atStart => exact ⟨0, i, s, by omega, rfl, rfl, hi, by simp, Chg.refl _ _⟩
    case round =>
      obtain ⟨j, i', s', hj, rfl, rfl, hi', hlk, hc'⟩ := hrel
      rcases Nat.lt_or_ge j l.length with hlt | hge
      · obtain ⟨⟨xk, xb, xn, xf, xt, xl⟩, hx⟩ : ∃ x, l[j]? = some x := ⟨_, List.getElem?_eq_getElem hlt⟩
        obtain ⟨xv, hxv⟩ : ∃ v, vs[j]? = some v := ⟨_, List.getElem?_eq_getElem (by omega)⟩
        have hd8 : d ≤ 8 := by
          rcases hd2 with h | h
          · exact h
          · subst h; simp at hlt
        have hdr : l.drop j = It.mk xk xb xn xf xt xl :: l.drop (j + 1) := by
          rw [List.drop_eq_getElem_cons hlt]
          congr 1
          exact (List.getElem?_eq_some_iff.1 hx).2
        have hin1 := hin xk xb xn xf xt xl (List.mem_of_getElem? hx)
        have hk' := hk.chg hc' (fun k hkB e => e)
        have hcell : ∀ q u, (icells xk xb xn xf xt xv)[q]? = some u → wr.cell? ⟨gr, off + j * 6 + q, none⟩ = some u := fun q u hq => by
          rw [hk'.1 _ hgr]; exact hcells j xk xb xn xf xt xl xv hx hxv q u hq
        have c0 := hcell 0 _ rfl
        have c1 := hcell 1 _ rfl
        have c2 := hcell 2 _ rfl
        have c3 := hcell 3 _ rfl
        have c4 := hcell 4 _ rfl
        have c5 := hcell 5 _ rfl
        obtain ⟨A, xcap, rfl, hxc1, hxc2⟩ := (hr j xk xb xn xf xt xl xv hx hxv).slice
        rw [Nat.add_zero] at c0
        have hcv : IntKind.i64.wrap (xk : Int) = (xk : Int) := IntWalk.i64_in _ (by have := hin1.k; omega)
        have Hmay := Lib.hid (fun w => rmay_calls xk xb xn xf xt A xl.length xcap xl rfl hin1.k w)
        obtain ⟨mb, hmb⟩ : ∃ mb, Tp.mayB xk xb xn xf xt xl = mb := ⟨_, rfl⟩
        rw [hmb] at Hmay
        have Hmb := Lib.hid hmb
        have Hlk := Lib.hid hlk
        have Hdr := Lib.hid hdr
        have Hk' := Lib.hid hk'
        have Hk := Lib.hid hk
        have Hin0 := Lib.hid hin
        have Hcells := Lib.hid hcells
        have Hr := Lib.hid hr
        have Ih := Lib.hid ih
        have Hx := Lib.hid hx
        have Hxv := Lib.hid hxv
        have Hc' := Lib.hid hc'
        have Hl := Lib.hid hl
        clear hin1 hlk hdr hk' hk hin hcells hr ih hx hxv hc' hl hcell hmb
        rcases Nat.lt_or_ge i' 64 with hlt64 | hge64
        · have b64 : decide (64 ≤ (i' : Int)) = false := by rw [decide_eq_false_iff_not]; omega
          cases mb
          · go_wp2_with fail
            refine (Hmay.out _).mono ?_
            rintro e w2 ⟨rfl, hc2⟩
            go_wp2_with fail
            refine bodyPost_ret (results_tmp2 rfl _ _ _) rfl ?_
            have hlk := Hlk.out
            rw [Hdr.out, look_bad (by omega) Hmb.out] at hlk
            rw [hlk]
            have hcx := (Hc'.out).andThen hc2 (fun _ _ h => h)
            exact ⟨rfl, hcx⟩
          · rcases (show xk = 6 ∧ 8 ≤ d ∨ xk ≠ 6 ∨ xk = 6 ∧ d < 8 by omega) with ⟨rfl, hd8'⟩ | hcont
            · have d8 : decide (8 ≤ (d : Int)) = true := by rw [decide_eq_true_iff]; omega
              go_wp2_with fail
              refine (Hmay.out _).mono ?_
              rintro e w2 ⟨rfl, hc2⟩
              have e0 := keepCell' hc2 (fun h => h) c0
              go_wp2_with fail
              refine bodyPost_ret (results_tmp2 rfl _ _ _) rfl ?_
              have hlk := Hlk.out
              rw [Hdr.out, look_deep (by omega) Hmb.out hd8'] at hlk
              rw [hlk]
              have hcx := (Hc'.out).andThen hc2 (fun _ _ h => h)
              exact ⟨rfl, hcx⟩
            · obtain ⟨⟨ri, rs, re⟩, hr⟩ : ∃ r, Tp.look xl (d + 1) (i' + 1) (s' + Tp.len1 xk xn xt) = r := ⟨_, rfl⟩
              have hle := Tp.look_le xl (d + 1) (i' + 1) (s' + Tp.len1 xk xn xt) (by omega)
              rw [hr] at hle
              have hd9 : d + 1 ≤ 8 ∨ xl = [] := by
                rcases Nat.lt_or_ge d 8 with h | h
                · exact .inl h
                · right
                  have hm := Hmb.out
                  unfold Tp.mayB Tp.cleanB at hm
                  simp only [Bool.and_eq_true, Bool.or_eq_true] at hm
                  rcases hm.2.2.2.2.2 with h6 | h6
                  · have h6' : xk = 6 := by simpa using h6
                    omega
                  · simpa using h6
              have HI : ∀ wc, Chg (fun _ => False) wr wc → _ := fun wc hcx => (Ih.out) j xk xb xn xf xt xl _ Hx.out Hxv.out wc (Hk'.out.chg hcx (fun k hkB e => e)) (i' + 1) (s' + Tp.len1 xk xn xt) (d + 1) (by omega) (by omega) hd9
              rw [hr] at HI
              dsimp only at HI
              rw [show ((d + 1 : Nat) : Int) = (d : Int) + 1 from rfl, show ((i' + 1 : Nat) : Int) = (i' : Int) + 1 from rfl] at HI
              have Hle := Lib.hid hle
              have HI := Lib.hid HI
              have Hcn := Lib.hid (show xk = 6 → d < 8 by omega)
              have hq : ((xk : Int) == 6) = false ∨ ((xk : Int) == 6) = true ∧ decide (8 ≤ (d : Int)) = false := by
                rcases hcont with h | ⟨h1, h2⟩
                · exact .inl (by rw [beq_eq_false_iff_ne]; omega)
                · exact .inr ⟨by rw [beq_iff_eq]; omega, by rw [decide_eq_false_iff_not]; omega⟩
              have Hlk2 := Lib.hid (show Tp.look l d i s = if re = 0 then Tp.look (l.drop (j + 1)) d ri rs else (ri, rs, re) by
                rw [Hlk.out, Hdr.out, look_in (by omega) Hmb.out Hcn.out, hr])
              clear hcont hr hle hd9
              rcases hq with k6 | ⟨k6, d8⟩
              all_goals
                go_wp2_with fail
                refine (Hmay.out _).mono ?_
                rintro e w2 ⟨rfl, hc2⟩
                have e0 := keepCell' hc2 (fun h => h) c0
                have e5 := keepCell' hc2 (fun h => h) c5
                go_wp2_with fail
                refine (HI.out _ hc2).mono ?_
                rintro e w3 ⟨rfl, hc3⟩
                have hcx := (Hc'.out).andThen hc2 (fun _ _ h => h)
                have Hcx := Lib.hid (hcx.andThen hc3 (fun _ _ h => h))
                clear hc2 hc3 hcx
                by_cases hre : re = 0
                · subst hre
                  have hlk2 := Hlk2.out
                  rw [if_pos rfl] at hlk2
                  have Hlk3 := Lib.hid hlk2
                  clear hlk2
                  go_wp2_with fail
                  go_round
                  case rel =>
                    obtain ⟨a1, a2, a3, a4, a5⟩ := Hle.out
                    exact ⟨j + 1, ri, rs, by omega, rfl, by go_num, a2, Hlk3.out, Hcx.out⟩
                  case measure => simp [intOf]; omega
                · have hre2 : (re != 0) = true := by simpa using hre
                  have hre3 : (re == 0) = false := by simpa using hre
                  have hlk2 := Hlk2.out
                  rw [if_neg hre] at hlk2
                  have Hlk3 := Lib.hid hlk2
                  clear hlk2 hre
                  go_wp2_with fail
                  refine bodyPost_ret (results_tmp2 rfl _ _ _) rfl ?_
                  rw [Hlk3.out]
                  exact ⟨rfl, Hcx.out⟩
        · obtain rfl : i' = 64 := by omega
          go_wp2_with fail
          refine bodyPost_ret (results_tmp2 rfl _ _ _) rfl ?_
          have hlk := Hlk.out
          rw [Hdr.out, look_many] at hlk
          rw [hlk]
          exact ⟨rfl, Hc'.out⟩
      · have hjl : j = l.length := by omega
        have Hlk := Lib.hid (show Tp.look l d i s = (i', s', 0) by rw [hlk, hjl, List.drop_length]; simp [Tp.look])
        have Hc' := Lib.hid hc'
        have hnl : ¬ ((j : Int) < (l.length : Int)) := by omega
        have hnl2 : decide ((j : Int) < (l.length : Int)) = false := by rw [decide_eq_false_iff_not]; omega
        clear hk hin hcells hr ih hc' hl hlk
        go_wp2_with fail
        refine bodyPost_ret (results_tmp2 rfl _ _ _) rfl ?_
        rw [Hlk.out]
        exact ⟨rfl, Hc'.out⟩
end Go.Proofs.YtdicelibjpmglaaGreatDoor
