/-
  Layer 3: the walk of TupleCompares.
-/
import Derived.Test.YtdicelibjpmglaaGreatDoorLp
namespace Go.Proofs.YtdicelibjpmglaaGreatDoor
open Go.RowKit
set_option linter.unusedVariables false
set_option linter.unusedSimpArgs false
attribute [local go_sem] run_store_float
open Tp (It)

theorem s2x6 (ka : Nat) (ba : Bool) (na : Int) (fa : Nat) (ta : List UInt8) (Aa : Option Addr) (ma ca : Nat) (kb : Nat) (bb : Bool) (nb : Int) (fb : Nat) (tb : List UInt8) (Ab : Option Addr) (mb cb : Nat) {W w' : World} (ha : Blk w' W.heap.size 40 #[.int .u8 ka, .bool ba, .int .i64 na, .float .f64 fa, S ta, .slice Aa ma ca]) (hb : Blk w' (W.heap.size + 1) 40 #[.int .u8 kb, .bool bb, .int .i64 nb, .float .f64 fb, S tb, .slice Ab mb cb]) :
    w'.cell? ⟨W.heap.size, 0, none⟩ = some (.int .u8 ka) ∧ w'.cell? ⟨W.heap.size, 1, none⟩ = some (.bool ba) ∧ w'.cell? ⟨W.heap.size, 2, none⟩ = some (.int .i64 na) ∧ w'.cell? ⟨W.heap.size, 3, none⟩ = some (.float .f64 fa) ∧ w'.cell? ⟨W.heap.size, 4, none⟩ = some (S ta) ∧ w'.cell? ⟨W.heap.size, 5, none⟩ = some (.slice Aa ma ca) ∧ w'.cell? ⟨W.heap.size + 1, 0, none⟩ = some (.int .u8 kb) ∧ w'.cell? ⟨W.heap.size + 1, 1, none⟩ = some (.bool bb) ∧ w'.cell? ⟨W.heap.size + 1, 2, none⟩ = some (.int .i64 nb) ∧ w'.cell? ⟨W.heap.size + 1, 3, none⟩ = some (.float .f64 fb) ∧ w'.cell? ⟨W.heap.size + 1, 4, none⟩ = some (S tb) ∧ w'.cell? ⟨W.heap.size + 1, 5, none⟩ = some (.slice Ab mb cb) := by
  refine ⟨?_, ?_, ?_, ?_, ?_, ?_, ?_, ?_, ?_, ?_, ?_, ?_⟩
  all_goals (first | (rw [ha.cell]; rfl) | (rw [hb.cell]; rfl))

set_option maxHeartbeats 8000000 in
set_option maxRecDepth 100000 in
theorem tupleCompares_walk (ka : Nat) (ba : Bool) (na : Int) (fa : Nat) (ta : List UInt8) (Aa : Option Addr) (ma ca : Nat) (la : List It) (kb : Nat) (bb : Bool) (nb : Int) (fb : Nat) (tb : List UInt8) (Ab : Option Addr) (mb cb : Nat) (lb : List It) (W : World) (hsh : W.ShapedOpen Tryz.prog)
    (ia : InIt ka na fa ta) (ra : Row W W.heap.size (.slice Aa ma ca) la) (za : Tp.sz [(It.mk ka ba na fa ta la)] ≤ 1000000000000) (ib : InIt kb nb fb tb) (rb : Row W W.heap.size (.slice Ab mb cb) lb) (zb : Tp.sz [(It.mk kb bb nb fb tb lb)] ≤ 1000000000000) :
    Calls Tryz.prog 6 #[IV ka ba na fa ta (.slice Aa ma ca), IV kb bb nb fb tb (.slice Ab mb cb)] W fun e w' => e = .returned (.bool true) ∧ Chg (fun _ => False) W w' := by
  obtain ⟨mm, hm⟩ := (Tryz.laysM143).s1_3 W hsh
  have hlt := World.block_lt_of_cell? _ _ hm
  have KK : ∀ w2, Chg (fun _ => False) W w2 → Keep W W.heap.size w2 := fun w2 hc => (Keep.refl W _ (Nat.le_refl _)).chg hc (fun k hkB e => e)
  have AW : ∀ w2, Chg (fun _ => False) W w2 → Calls Tryz.prog 15 #[] w2 fun e w' => e = .returned (.bool true) ∧ Chg (fun _ => False) w2 w' := fun w2 hc => awake_calls w2 mm ((hc.cell hlt (fun h => h)).trans hm)
  have HA := Lib.hid AW
  have Oab := Lib.hid (fun w2 (hc : Chg (fun _ => False) W w2) => compare_calls ka ba na fa ta _ la kb bb nb fb tb _ lb ia ib ra rb w2 (KK w2 hc) za zb)
  have Rab := Lib.hid (fun w2 (hc : Chg (fun _ => False) W w2) => rcompare_calls ka ba na fa ta _ la kb bb nb fb tb _ lb ia ib ra rb w2 (KK w2 hc) za zb)
  have Oba := Lib.hid (fun w2 (hc : Chg (fun _ => False) W w2) => compare_calls kb bb nb fb tb _ lb ka ba na fa ta _ la ib ia rb ra w2 (KK w2 hc) zb za)
  have Rba := Lib.hid (fun w2 (hc : Chg (fun _ => False) W w2) => rcompare_calls kb bb nb fb tb _ lb ka ba na fa ta _ la ib ia rb ra w2 (KK w2 hc) zb za)
  have Oaa := Lib.hid (fun w2 (hc : Chg (fun _ => False) W w2) => compare_calls ka ba na fa ta _ la ka ba na fa ta _ la ia ia ra ra w2 (KK w2 hc) za za)
  rw [Tp.comp_self] at Oaa
  have Na := (Blk.new W 40 #[.int .u8 ka, .bool ba, .int .i64 na, .float .f64 fa, S ta, .slice Aa ma ca]).alloc (.cells #[.int .u8 kb, .bool bb, .int .i64 nb, .float .f64 fb, S tb, .slice Ab mb cb] 40)
  have Nb := Blk.new' W (.cells #[.int .u8 ka, .bool ba, .int .i64 na, .float .f64 fa, S ta, .slice Aa ma ca] 40) 40 #[.int .u8 kb, .bool bb, .int .i64 nb, .float .f64 fb, S tb, .slice Ab mb cb]
  obtain ⟨oab, hoab⟩ : ∃ o, Tp.comp (It.mk ka ba na fa ta la) (It.mk kb bb nb fb tb lb) = o := ⟨_, rfl⟩
  rw [hoab] at Oab Rab
  obtain ⟨oba, hoba⟩ : ∃ o, Tp.comp (It.mk kb bb nb fb tb lb) (It.mk ka ba na fa ta la) = o := ⟨_, rfl⟩
  rw [hoba] at Oba Rba
  clear ia ra za ib rb zb hoab hoba hm hlt KK AW hsh
  have hs : Chg (fun _ => False) W ((W.alloc (.cells #[.int .u8 ka, .bool ba, .int .i64 na, .float .f64 fa, S ta, .slice Aa ma ca] 40)).alloc (.cells #[.int .u8 kb, .bool bb, .int .i64 nb, .float .f64 fb, S tb, .slice Ab mb cb] 40)) := ((Chg.refl _ W).alloc _).alloc _
  have G0 := Lib.hid hs.drew
  have xa' := Na.drew
  have xb' := Nb.drew
  clear hs
  go_enter Tryz.func6, Tryz.ntmps6
  go_upto_region 1 with fail
  go_region_held3 (fun w' => w'.cell? ⟨W.heap.size, 0, none⟩ = some (.int .u8 ka) ∧ w'.cell? ⟨W.heap.size, 1, none⟩ = some (.bool ba) ∧ w'.cell? ⟨W.heap.size, 2, none⟩ = some (.int .i64 na) ∧ w'.cell? ⟨W.heap.size, 3, none⟩ = some (.float .f64 fa) ∧ w'.cell? ⟨W.heap.size, 4, none⟩ = some (S ta) ∧ w'.cell? ⟨W.heap.size, 5, none⟩ = some (.slice Aa ma ca) ∧ w'.cell? ⟨W.heap.size + 1, 0, none⟩ = some (.int .u8 kb) ∧ w'.cell? ⟨W.heap.size + 1, 1, none⟩ = some (.bool bb) ∧ w'.cell? ⟨W.heap.size + 1, 2, none⟩ = some (.int .i64 nb) ∧ w'.cell? ⟨W.heap.size + 1, 3, none⟩ = some (.float .f64 fb) ∧ w'.cell? ⟨W.heap.size + 1, 4, none⟩ = some (S tb) ∧ w'.cell? ⟨W.heap.size + 1, 5, none⟩ = some (.slice Ab mb cb))
    (first | exact s2x6 _ _ _ _ _ _ _ _  _ _ _ _ _ _ _ _ (by assumption) (by assumption))
    (first
      | (go_at_call 23; (with_reducible refine (Oab.out _ G0.out).mono ?_); rintro e w1 ⟨rfl, q1⟩; have G1 := Lib.hid ((G0.out).trans q1); have a1 := (xa').chg q1 (fun h => h); have b1 := (xb').chg q1 (fun h => h))
      | (go_at_call 24; (with_reducible refine (Rab.out _ G1.out).mono ?_); rintro e w2 ⟨rfl, q2⟩; have G2 := Lib.hid ((G1.out).trans q2); have a2 := (a1).chg q2 (fun h => h); have b2 := (b1).chg q2 (fun h => h))
      | (go_at_call 23; (with_reducible refine (Oba.out _ G2.out).mono ?_); rintro e w3 ⟨rfl, q3⟩; have G3 := Lib.hid ((G2.out).trans q3); have a3 := (a2).chg q3 (fun h => h); have b3 := (b2).chg q3 (fun h => h))
      | (go_at_call 24; (with_reducible refine (Rba.out _ G3.out).mono ?_); rintro e w4 ⟨rfl, q4⟩; have G4 := Lib.hid ((G3.out).trans q4); have a4 := (a3).chg q4 (fun h => h); have b4 := (b3).chg q4 (fun h => h))
      | (go_at_call 23; (with_reducible refine (Oaa.out _ G4.out).mono ?_); rintro e w5 ⟨rfl, q5⟩; have G5 := Lib.hid ((G4.out).trans q5); have a5 := (a4).chg q5 (fun h => h); have b5 := (b4).chg q5 (fun h => h))
      | (go_at_call 15; (with_reducible refine (HA.out _ G5.out).mono ?_); rintro e w6 ⟨rfl, q6⟩; have G6 := Lib.hid ((G5.out).trans q6); have a6 := (a5).chg q6 (fun h => h); have b6 := (b5).chg q6 (fun h => h)))
  all_goals
    clear xa' xb' a1 b1 a2 b2 a3 b3 a4 b4 a5 b5 a6 b6 q1 q2 q3 q4 q5 q6 Na Nb
    go_wp2_with fail
    go_ret
    exact ⟨rfl, G6.out⟩

theorem tupleCompares_walk' (ka : Nat) (ba : Bool) (na : Int) (fa : Nat) (ta : List UInt8) (ua : Value) (la : List It) (kb : Nat) (bb : Bool) (nb : Int) (fb : Nat) (tb : List UInt8) (ub : Value) (lb : List It) (W : World) (hsh : W.ShapedOpen Tryz.prog)
    (ia : InIt ka na fa ta) (ra : Row W W.heap.size ua la) (za : Tp.sz [(It.mk ka ba na fa ta la)] ≤ 1000000000000) (ib : InIt kb nb fb tb) (rb : Row W W.heap.size ub lb) (zb : Tp.sz [(It.mk kb bb nb fb tb lb)] ≤ 1000000000000) :
    Calls Tryz.prog 6 #[IV ka ba na fa ta ua, IV kb bb nb fb tb ub] W fun e w' => e = .returned (.bool true) ∧ Chg (fun _ => False) W w' := by
  obtain ⟨Aa, ca, rfl, -, -⟩ := ra.slice
  obtain ⟨Ab, cb, rfl, -, -⟩ := rb.slice
  exact tupleCompares_walk ka ba na fa ta _ _ _ la kb bb nb fb tb _ _ _ lb W hsh ia ra za ib rb zb
end Go.Proofs.YtdicelibjpmglaaGreatDoor
