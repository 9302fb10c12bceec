/-
  Layer 3: the program's Check, the document's Check.
-/
import Derived.Test.YtdicelibjpmglaaGreatDoorTf
namespace Go.Proofs.YtdicelibjpmglaaGreatDoor
open Go.RowKit
set_option linter.unusedVariables false
set_option linter.unusedSimpArgs false
attribute [local go_sem] run_store_float
open Tp (It)

set_option maxHeartbeats 4000000 in
set_option maxRecDepth 100000 in
theorem check_calls {w0 : World} {B : Nat} {v : Value} {l : List It} (hrow : Row w0 B v l) (w : World) (hk : Keep w0 B w) (hs : Tp.sz l ≤ 1000000000000) :
    Calls Tryz.prog 38 #[v] w fun e w' => e = .returned (.int .i64 (Tp.check l)) ∧ Chg (fun _ => False) w w' := by
  have HL := look_calls hrow (w.alloc (.cells #[.int .i64 0, .int .i64 0] 88)) (hk.chg ((Chg.refl (fun _ => False) w).alloc _) (fun k hkB e => e)) w.heap.size hk.2 0 0 0 (by omega) (by omega) (by omega) (.inl (by omega)) (Blk.new w _ _)
  have hlo := Tp.look_ok l 0 0 0
  have hle := Tp.look_le l 0 0 0 (by omega)
  obtain ⟨⟨ri, rs, re⟩, hr⟩ : ∃ r, Tp.look l 0 0 0 = r := ⟨_, rfl⟩
  have Hck := Lib.hid (show Tp.check l = if re ≠ 0 then re else if 4096 < rs then 4 else 0 by unfold Tp.check; rw [hr])
  rw [hr] at HL hlo hle
  dsimp only at HL hlo hle
  have hrs : rs ≤ 1000000000000 := by omega
  have Hlo := Lib.hid hlo
  have Hle := Lib.hid hle
  have HL := Lib.hid HL
  obtain ⟨A, cap, rfl, -, -⟩ := hrow.slice
  have Hrow := Lib.hid hrow
  clear hlo hle hr hs hk hrow
  go_enter Tryz.func38, Tryz.ntmps38
  go_wp2_with fail
  refine HL.out.mono ?_
  rintro e w2 ⟨rfl, hb, hc⟩
  have b1 : w2.cell? ⟨w.heap.size, 1, none⟩ = some (.int .i64 rs) := by rw [hb.cell]; rfl
  have Hc := Lib.hid (show Chg (fun _ => False) w w2 from ((Chg.refl _ w).alloc _).andThen hc (fun k hk h => by subst h; exact absurd hk (Nat.lt_irrefl _)))
  clear hb hc
  by_cases hre : re = 0
  · subst hre
    rcases Nat.lt_or_ge 4096 rs with hlt | hge
    · have b2 : decide (4096 < (rs : Int)) = true := by rw [decide_eq_true_iff]; omega
      have hck := Hck.out
      rw [if_neg (by simp), if_pos hlt] at hck
      have Hck := Lib.hid hck
      clear hck
      go_wp2_with fail
      go_ret
      rw [Hck.out]
      exact ⟨rfl, Hc.out⟩
    · have b2 : decide (4096 < (rs : Int)) = false := by rw [decide_eq_false_iff_not]; omega
      have hck := Hck.out
      rw [if_neg (by simp), if_neg (by omega)] at hck
      have Hck := Lib.hid hck
      clear hck
      go_wp2_with fail
      go_ret
      rw [Hck.out]
      exact ⟨rfl, Hc.out⟩
  · have hre2 : (re != 0) = true := by simpa using hre
    have hre3 : (re == 0) = false := by simpa using hre
    have hck := Hck.out
    rw [if_pos hre] at hck
    have Hck := Lib.hid hck
    clear hck hre
    go_wp2_with fail
    go_ret
    rw [Hck.out]
    exact ⟨rfl, Hc.out⟩

set_option maxHeartbeats 4000000 in
set_option maxRecDepth 100000 in
theorem rcheck_calls {w0 : World} {B : Nat} {v : Value} {l : List It} (hrow : Row w0 B v l) (w : World) (hk : Keep w0 B w) (hs : Tp.sz l ≤ 1000000000000) :
    Calls Tryz.prog 36 #[v] w fun e w' => e = .returned (.int .i64 (Tp.check l)) ∧ Chg (fun _ => False) w w' := by
  have HL := rwalk_calls hrow w hk 0 0 0 (by omega) (by omega) (.inl (by omega))
  have HS : Tp.okB l = true → ∀ w2, Chg (fun _ => False) w w2 → _ := fun hok w2 hc => rsize_calls hrow w2 (hk.chg hc (fun k hkB e => e)) hok hs
  have hlo := Tp.look_ok l 0 0 0
  have hok := Tp.okB_look l 0 0 0
  obtain ⟨⟨ri, rs, re⟩, hr⟩ : ∃ r, Tp.look l 0 0 0 = r := ⟨_, rfl⟩
  have Hck := Lib.hid (show Tp.check l = if re ≠ 0 then re else if 4096 < rs then 4 else 0 by unfold Tp.check; rw [hr])
  rw [hr] at HL hlo hok
  dsimp only at HL hlo hok
  have Hlo := Lib.hid hlo
  have HL := Lib.hid HL
  obtain ⟨A, cap, rfl, -, -⟩ := hrow.slice
  have Hrow := Lib.hid hrow
  by_cases hre : re = 0
  · subst hre
    have HS := Lib.hid (HS (hok rfl))
    have Hrs := Lib.hid (hlo rfl)
    have hsz : Tp.sz l ≤ 1000000000000 := hs
    obtain ⟨z, hz⟩ : ∃ z, Tp.sz l = z := ⟨_, rfl⟩
    rw [hz] at HS Hrs hsz
    clear hlo hok hr hs hk hrow hz
    go_enter Tryz.func36, Tryz.ntmps36
    go_wp2_with fail
    refine HL.out.mono ?_
    rintro e w2 ⟨rfl, hc⟩
    go_wp2_with fail
    refine (HS.out _ hc).mono ?_
    rintro e w3 ⟨r, rfl, hr, hc3⟩
    have Hc := Lib.hid (hc.andThen hc3 (fun _ _ h => h))
    clear hc hc3
    have hck := Hck.out
    rw [if_neg (by simp)] at hck
    have hrs := Hrs.out.2
    rw [Nat.zero_add] at hrs
    rcases Nat.lt_or_ge 4096 r with hlt | hge
    · have b2 : decide (4096 < (r : Int)) = true := by rw [decide_eq_true_iff]; omega
      rw [if_pos (by have := hr.1; omega)] at hck
      have Hck := Lib.hid hck
      clear hck hrs hr
      go_wp2_with fail
      go_ret
      rw [Hck.out]
      exact ⟨rfl, Hc.out⟩
    · have b2 : decide (4096 < (r : Int)) = false := by rw [decide_eq_false_iff_not]; omega
      rw [if_neg (by have := hr.2 hge; omega)] at hck
      have Hck := Lib.hid hck
      clear hck hrs hr
      go_wp2_with fail
      go_ret
      rw [Hck.out]
      exact ⟨rfl, Hc.out⟩
  · clear HS hlo hok hr hs hk hrow
    have hre2 : (re != 0) = true := by simpa using hre
    have hre3 : (re == 0) = false := by simpa using hre
    have hck := Hck.out
    rw [if_pos hre] at hck
    have Hck := Lib.hid hck
    clear hck hre
    go_enter Tryz.func36, Tryz.ntmps36
    go_wp2_with fail
    refine HL.out.mono ?_
    rintro e w2 ⟨rfl, hc⟩
    go_wp2_with fail
    go_ret
    rw [Hck.out]
    exact ⟨rfl, hc⟩
end Go.Proofs.YtdicelibjpmglaaGreatDoor
