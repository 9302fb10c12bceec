/-
  Layer 27: a kind's parts. Printed by gen_ya.py.
-/
import Derived.Test.YthkfcfkkamffpaaGreatWq
namespace Go.Proofs.YthkfcfkkamffpaaGreat
open Go.RowKit
set_option linter.unusedVariables false
set_option linter.unusedSimpArgs false
open Wm (M)
attribute [local go_sem ↓] st_part
def pcells (x : Wm.Fd × List Nat) : List Value := [.func (.func (layF x.1)) #[] (caps x.2 (layI x.1)), .func (.func (takeF x.1)) #[] (caps x.2 (takeI x.1)), .func (.func (copyF x.1)) #[] (caps x.2 (copyI x.1)), .func (.func (mayF x.1)) #[] (caps x.2 (mayI x.1))]
/-- the slice v holds the parts Q, all of it at or above base -/
structure IsPs (w : World) (base : Nat) (Q : List (Wm.Fd × List Nat)) (v : Value) : Prop where
  row : LR w 4 v Q.length (Q.flatMap pcells)
  own : ∀ A n c, v = .slice A n c → ∀ b off, 0 < n → A = some ⟨b, off, none⟩ → base ≤ b
  part : ∀ x ∈ Q, IsPart w base x.1 x.2
theorem IsPs.chg {R : Nat → Prop} {w w' : World} {base : Nat} {Q : List (Wm.Fd × List Nat)} {v : Value} (h : IsPs w base Q v) (hc : Chg R w w') (hq : ∀ b, base ≤ b → ¬ R b) : IsPs w' base Q v :=
  ⟨h.row.chg hc (fun A n c e b off hn ha => hq b (h.own A n c e b off hn ha)), h.own, fun x hx => (h.part x hx).chg hc hq⟩
theorem IsPs.low {w : World} {base base' : Nat} {Q : List (Wm.Fd × List Nat)} {v : Value} (h : IsPs w base Q v) (hb : base' ≤ base) : IsPs w base' Q v :=
  ⟨h.row, fun A n c e b off hn ha => Nat.le_trans hb (h.own A n c e b off hn ha), fun x hx => (h.part x hx).low hb⟩
theorem ps_none (w : World) (base : Nat) : IsPs w base [] (.slice none 0 0) :=
  ⟨⟨none, 0, rfl, rfl, fun h => absurd h (Nat.lt_irrefl 0)⟩, fun A n c e b off hn ha => by cases e; omega, fun x hx => by simp at hx⟩
theorem pcells_len : ∀ Q : List (Wm.Fd × List Nat), (Q.flatMap pcells).length = Q.length * 4
  | [] => rfl
  | x :: Q => by rw [List.flatMap_cons, List.length_append, pcells_len Q, List.length_cons, Nat.succ_mul]; show 4 + _ = _; omega
theorem ps_new (w1 : World) (base : Nat) (Q : List (Wm.Fd × List Nat)) (cs : Array Value) (cap : Nat) (he : cs = (Q.flatMap pcells).toArray) (hb : base ≤ w1.heap.size) (hp : ∀ x ∈ Q, IsPart w1 base x.1 x.2) :
    IsPs (w1.alloc (.cells cs 88)) base Q (.slice (some ⟨w1.heap.size, 0, none⟩) Q.length cap) := by
  refine ⟨⟨_, _, rfl, pcells_len Q, fun _ => ⟨w1.heap.size, 0, rfl, fun j u hu => ?_⟩⟩, fun A n c e b off hn ha => ?_, fun x hx => (hp x hx).chg ((Chg.refl (fun _ => False) w1).alloc _) (fun _ _ h => h)⟩
  · rw [Nat.zero_add, (Blk.new w1 88 cs).cell, he, List.getElem?_toArray]
    exact hu
  · injection e with e1
    subst e1
    injection ha with ha
    injection ha with ha
    omega

set_option maxHeartbeats 2000000 in
set_option maxRecDepth 100000 in
theorem told_21 (w : World) : Calls Tryz.prog 95 #[.int .u8 21] w fun e w' => ∃ v Q, e = .returned (.tuple #[v, .bool true]) ∧ Q.map Prod.fst = [Wm.Fd.f] ∧ IsPs w' w.heap.size Q v ∧ Chg (fun _ => False) w w' := by
  go_enter Tryz.func95, Tryz.ntmps95
  go_wp2_with (first | (go_at_call 121; refine (mk_f _).mono ?_; rintro e wf ⟨bsf, rfl, hpf, hcf⟩))
  go_ret2
  have hsf := hcf.size
  have hqf : IsPart wf w.heap.size .f bsf := hpf.low (by omega)
  exact ⟨_, [(.f, bsf)], rfl, rfl, ps_new wf w.heap.size [(.f, bsf)] _ _ rfl (by omega) (List.forall_mem_cons.2 ⟨hqf, (fun x hx => by simp at hx)⟩), (hcf).alloc _⟩

set_option maxHeartbeats 2000000 in
set_option maxRecDepth 100000 in
theorem told_22 (w : World) : Calls Tryz.prog 95 #[.int .u8 22] w fun e w' => ∃ v Q, e = .returned (.tuple #[v, .bool true]) ∧ Q.map Prod.fst = [Wm.Fd.C] ∧ IsPs w' w.heap.size Q v ∧ Chg (fun _ => False) w w' := by
  go_enter Tryz.func95, Tryz.ntmps95
  go_wp2_with (first | (go_at_call 122; refine (mk_C _).mono ?_; rintro e wC ⟨bsC, rfl, hpC, hcC⟩))
  go_ret2
  have hsC := hcC.size
  have hqC : IsPart wC w.heap.size .C bsC := hpC.low (by omega)
  exact ⟨_, [(.C, bsC)], rfl, rfl, ps_new wC w.heap.size [(.C, bsC)] _ _ rfl (by omega) (List.forall_mem_cons.2 ⟨hqC, (fun x hx => by simp at hx)⟩), (hcC).alloc _⟩

set_option maxHeartbeats 2000000 in
set_option maxRecDepth 100000 in
theorem told_23 (w : World) : Calls Tryz.prog 95 #[.int .u8 23] w fun e w' => ∃ v Q, e = .returned (.tuple #[v, .bool true]) ∧ Q.map Prod.fst = [Wm.Fd.H, Wm.Fd.E, Wm.Fd.t, Wm.Fd.s] ∧ IsPs w' w.heap.size Q v ∧ Chg (fun _ => False) w w' := by
  go_enter Tryz.func95, Tryz.ntmps95
  go_wp2_with (first | (go_at_call 123; refine (mk_H _).mono ?_; rintro e wH ⟨bsH, rfl, hpH, hcH⟩) | (go_at_call 124; refine (mk_E _).mono ?_; rintro e wE ⟨bsE, rfl, hpE, hcE⟩) | (go_at_call 125; refine (mk_t _).mono ?_; rintro e wt ⟨bst, rfl, hpt, hct⟩) | (go_at_call 126; refine (mk_s _).mono ?_; rintro e ws ⟨bss, rfl, hps, hcs⟩))
  go_ret2
  have hsH := hcH.size
  have hsE := hcE.size
  have hst := hct.size
  have hss := hcs.size
  have hqH : IsPart ws w.heap.size .H bsH := (((hpH.chg hcE (fun _ _ h => h)).chg hct (fun _ _ h => h)).chg hcs (fun _ _ h => h)).low (by omega)
  have hqE : IsPart ws w.heap.size .E bsE := ((hpE.chg hct (fun _ _ h => h)).chg hcs (fun _ _ h => h)).low (by omega)
  have hqt : IsPart ws w.heap.size .t bst := (hpt.chg hcs (fun _ _ h => h)).low (by omega)
  have hqs : IsPart ws w.heap.size .s bss := hps.low (by omega)
  exact ⟨_, [(.H, bsH), (.E, bsE), (.t, bst), (.s, bss)], rfl, rfl, ps_new ws w.heap.size [(.H, bsH), (.E, bsE), (.t, bst), (.s, bss)] _ _ rfl (by omega) (List.forall_mem_cons.2 ⟨hqH, (List.forall_mem_cons.2 ⟨hqE, (List.forall_mem_cons.2 ⟨hqt, (List.forall_mem_cons.2 ⟨hqs, (fun x hx => by simp at hx)⟩)⟩)⟩)⟩), ((((hcH.trans hcE).trans hct).trans hcs)).alloc _⟩

set_option maxHeartbeats 2000000 in
set_option maxRecDepth 100000 in
theorem told_24 (w : World) : Calls Tryz.prog 95 #[.int .u8 24] w fun e w' => ∃ v Q, e = .returned (.tuple #[v, .bool true]) ∧ Q.map Prod.fst = [Wm.Fd.f, Wm.Fd.V] ∧ IsPs w' w.heap.size Q v ∧ Chg (fun _ => False) w w' := by
  go_enter Tryz.func95, Tryz.ntmps95
  go_wp2_with (first | (go_at_call 121; refine (mk_f _).mono ?_; rintro e wf ⟨bsf, rfl, hpf, hcf⟩) | (go_at_call 88; refine (mk_V _).mono ?_; rintro e wV ⟨bsV, rfl, hpV, hcV⟩))
  go_ret2
  have hsf := hcf.size
  have hsV := hcV.size
  have hqf : IsPart wV w.heap.size .f bsf := (hpf.chg hcV (fun _ _ h => h)).low (by omega)
  have hqV : IsPart wV w.heap.size .V bsV := hpV.low (by omega)
  exact ⟨_, [(.f, bsf), (.V, bsV)], rfl, rfl, ps_new wV w.heap.size [(.f, bsf), (.V, bsV)] _ _ rfl (by omega) (List.forall_mem_cons.2 ⟨hqf, (List.forall_mem_cons.2 ⟨hqV, (fun x hx => by simp at hx)⟩)⟩), ((hcf.trans hcV)).alloc _⟩

set_option maxHeartbeats 2000000 in
set_option maxRecDepth 100000 in
theorem told_25 (w : World) : Calls Tryz.prog 95 #[.int .u8 25] w fun e w' => ∃ v Q, e = .returned (.tuple #[v, .bool true]) ∧ Q.map Prod.fst = [Wm.Fd.P, Wm.Fd.m] ∧ IsPs w' w.heap.size Q v ∧ Chg (fun _ => False) w w' := by
  go_enter Tryz.func95, Tryz.ntmps95
  go_wp2_with (first | (go_at_call 127; refine (mk_list_pair 128 256 129 130 131 _).mono ?_; rintro e wP ⟨bsP, rfl, haP, hbP, hcP⟩; have hpP : IsPart wP _ .P bsP := ⟨haP, hbP⟩) | (go_at_call 132; refine (mk_truth 133 _).mono ?_; rintro e wm ⟨bsm, rfl, ham, hbm, hcm⟩; have hpm : IsPart wm _ .m bsm := ⟨ham, hbm⟩))
  go_ret2
  have hsP := hcP.size
  have hsm := hcm.size
  have hqP : IsPart wm w.heap.size .P bsP := (hpP.chg hcm (fun _ _ h => h)).low (by omega)
  have hqm : IsPart wm w.heap.size .m bsm := hpm.low (by omega)
  exact ⟨_, [(.P, bsP), (.m, bsm)], rfl, rfl, ps_new wm w.heap.size [(.P, bsP), (.m, bsm)] _ _ rfl (by omega) (List.forall_mem_cons.2 ⟨hqP, (List.forall_mem_cons.2 ⟨hqm, (fun x hx => by simp at hx)⟩)⟩), ((hcP.trans hcm)).alloc _⟩

set_option maxHeartbeats 2000000 in
set_option maxRecDepth 100000 in
theorem told_26 (w : World) : Calls Tryz.prog 95 #[.int .u8 26] w fun e w' => ∃ v Q, e = .returned (.tuple #[v, .bool true]) ∧ Q.map Prod.fst = [Wm.Fd.B] ∧ IsPs w' w.heap.size Q v ∧ Chg (fun _ => False) w w' := by
  go_enter Tryz.func95, Tryz.ntmps95
  go_wp2_with (first | (go_at_call 134; refine (mk_B _).mono ?_; rintro e wB ⟨bsB, rfl, hpB, hcB⟩))
  go_ret2
  have hsB := hcB.size
  have hqB : IsPart wB w.heap.size .B bsB := hpB.low (by omega)
  exact ⟨_, [(.B, bsB)], rfl, rfl, ps_new wB w.heap.size [(.B, bsB)] _ _ rfl (by omega) (List.forall_mem_cons.2 ⟨hqB, (fun x hx => by simp at hx)⟩), (hcB).alloc _⟩

set_option maxHeartbeats 2000000 in
set_option maxRecDepth 100000 in
theorem told_27 (w : World) : Calls Tryz.prog 95 #[.int .u8 27] w fun e w' => ∃ v Q, e = .returned (.tuple #[v, .bool true]) ∧ Q.map Prod.fst = [Wm.Fd.E, Wm.Fd.t] ∧ IsPs w' w.heap.size Q v ∧ Chg (fun _ => False) w w' := by
  go_enter Tryz.func95, Tryz.ntmps95
  go_wp2_with (first | (go_at_call 124; refine (mk_E _).mono ?_; rintro e wE ⟨bsE, rfl, hpE, hcE⟩) | (go_at_call 125; refine (mk_t _).mono ?_; rintro e wt ⟨bst, rfl, hpt, hct⟩))
  go_ret2
  have hsE := hcE.size
  have hst := hct.size
  have hqE : IsPart wt w.heap.size .E bsE := (hpE.chg hct (fun _ _ h => h)).low (by omega)
  have hqt : IsPart wt w.heap.size .t bst := hpt.low (by omega)
  exact ⟨_, [(.E, bsE), (.t, bst)], rfl, rfl, ps_new wt w.heap.size [(.E, bsE), (.t, bst)] _ _ rfl (by omega) (List.forall_mem_cons.2 ⟨hqE, (List.forall_mem_cons.2 ⟨hqt, (fun x hx => by simp at hx)⟩)⟩), ((hcE.trans hct)).alloc _⟩

set_option maxHeartbeats 2000000 in
set_option maxRecDepth 100000 in
theorem told_28 (w : World) : Calls Tryz.prog 95 #[.int .u8 28] w fun e w' => ∃ v Q, e = .returned (.tuple #[v, .bool true]) ∧ Q.map Prod.fst = [Wm.Fd.t] ∧ IsPs w' w.heap.size Q v ∧ Chg (fun _ => False) w w' := by
  go_enter Tryz.func95, Tryz.ntmps95
  go_wp2_with (first | (go_at_call 125; refine (mk_t _).mono ?_; rintro e wt ⟨bst, rfl, hpt, hct⟩))
  go_ret2
  have hst := hct.size
  have hqt : IsPart wt w.heap.size .t bst := hpt.low (by omega)
  exact ⟨_, [(.t, bst)], rfl, rfl, ps_new wt w.heap.size [(.t, bst)] _ _ rfl (by omega) (List.forall_mem_cons.2 ⟨hqt, (fun x hx => by simp at hx)⟩), (hct).alloc _⟩

set_option maxHeartbeats 2000000 in
set_option maxRecDepth 100000 in
theorem told_29 (w : World) : Calls Tryz.prog 95 #[.int .u8 29] w fun e w' => ∃ v Q, e = .returned (.tuple #[v, .bool true]) ∧ Q.map Prod.fst = [Wm.Fd.B] ∧ IsPs w' w.heap.size Q v ∧ Chg (fun _ => False) w w' := by
  go_enter Tryz.func95, Tryz.ntmps95
  go_wp2_with (first | (go_at_call 134; refine (mk_B _).mono ?_; rintro e wB ⟨bsB, rfl, hpB, hcB⟩))
  go_ret2
  have hsB := hcB.size
  have hqB : IsPart wB w.heap.size .B bsB := hpB.low (by omega)
  exact ⟨_, [(.B, bsB)], rfl, rfl, ps_new wB w.heap.size [(.B, bsB)] _ _ rfl (by omega) (List.forall_mem_cons.2 ⟨hqB, (fun x hx => by simp at hx)⟩), (hcB).alloc _⟩

set_option maxHeartbeats 2000000 in
set_option maxRecDepth 100000 in
theorem told_no (k : Nat) (hk : k < 21 ∨ 29 < k) (w : World) : Calls Tryz.prog 95 #[.int .u8 k] w fun e w' => e = .returned (.tuple #[.slice none 0 0, .bool false]) ∧ Chg (fun _ => False) w w' := by
  have d21 : decide ((k : Int) = 21) = false := decide_eq_false (by omega)
  have n21 : ((k : Int) == 21) = false := beq_eq_false_iff_ne.2 (by omega)
  have d22 : decide ((k : Int) = 22) = false := decide_eq_false (by omega)
  have n22 : ((k : Int) == 22) = false := beq_eq_false_iff_ne.2 (by omega)
  have d23 : decide ((k : Int) = 23) = false := decide_eq_false (by omega)
  have n23 : ((k : Int) == 23) = false := beq_eq_false_iff_ne.2 (by omega)
  have d24 : decide ((k : Int) = 24) = false := decide_eq_false (by omega)
  have n24 : ((k : Int) == 24) = false := beq_eq_false_iff_ne.2 (by omega)
  have d25 : decide ((k : Int) = 25) = false := decide_eq_false (by omega)
  have n25 : ((k : Int) == 25) = false := beq_eq_false_iff_ne.2 (by omega)
  have d26 : decide ((k : Int) = 26) = false := decide_eq_false (by omega)
  have n26 : ((k : Int) == 26) = false := beq_eq_false_iff_ne.2 (by omega)
  have d27 : decide ((k : Int) = 27) = false := decide_eq_false (by omega)
  have n27 : ((k : Int) == 27) = false := beq_eq_false_iff_ne.2 (by omega)
  have d28 : decide ((k : Int) = 28) = false := decide_eq_false (by omega)
  have n28 : ((k : Int) == 28) = false := beq_eq_false_iff_ne.2 (by omega)
  have d29 : decide ((k : Int) = 29) = false := decide_eq_false (by omega)
  have n29 : ((k : Int) == 29) = false := beq_eq_false_iff_ne.2 (by omega)
  clear hk
  go_enter Tryz.func95, Tryz.ntmps95
  go_wp2_with fail
  go_ret2
  exact ⟨rfl, Chg.refl _ _⟩

set_option maxHeartbeats 2000000 in
set_option maxRecDepth 100000 in
theorem parts_1 (w : World) : Calls Tryz.prog 57 #[.int .u8 1] w fun e w' => ∃ v Q, e = .returned (.tuple #[v, .bool true]) ∧ Q.map Prod.fst = [Wm.Fd.F] ∧ IsPs w' w.heap.size Q v ∧ Chg (fun _ => False) w w' := by
  go_enter Tryz.func57, Tryz.ntmps57
  go_wp2_with (first | (go_at_call 84; refine (mk_F _).mono ?_; rintro e wF ⟨bsF, rfl, hpF, hcF⟩))
  go_ret2
  have hsF := hcF.size
  have hqF : IsPart wF w.heap.size .F bsF := hpF.low (by omega)
  exact ⟨_, [(.F, bsF)], rfl, rfl, ps_new wF w.heap.size [(.F, bsF)] _ _ rfl (by omega) (List.forall_mem_cons.2 ⟨hqF, (fun x hx => by simp at hx)⟩), (hcF).alloc _⟩

set_option maxHeartbeats 2000000 in
set_option maxRecDepth 100000 in
theorem parts_2 (w : World) : Calls Tryz.prog 57 #[.int .u8 2] w fun e w' => ∃ v Q, e = .returned (.tuple #[v, .bool true]) ∧ Q.map Prod.fst = [Wm.Fd.K] ∧ IsPs w' w.heap.size Q v ∧ Chg (fun _ => False) w w' := by
  go_enter Tryz.func57, Tryz.ntmps57
  go_wp2_with (first | (go_at_call 85; refine (mk_K _).mono ?_; rintro e wK ⟨bsK, rfl, hpK, hcK⟩))
  go_ret2
  have hsK := hcK.size
  have hqK : IsPart wK w.heap.size .K bsK := hpK.low (by omega)
  exact ⟨_, [(.K, bsK)], rfl, rfl, ps_new wK w.heap.size [(.K, bsK)] _ _ rfl (by omega) (List.forall_mem_cons.2 ⟨hqK, (fun x hx => by simp at hx)⟩), (hcK).alloc _⟩

set_option maxHeartbeats 2000000 in
set_option maxRecDepth 100000 in
theorem parts_3 (w : World) : Calls Tryz.prog 57 #[.int .u8 3] w fun e w' => ∃ v Q, e = .returned (.tuple #[v, .bool true]) ∧ Q.map Prod.fst = [Wm.Fd.K, Wm.Fd.T, Wm.Fd.L] ∧ IsPs w' w.heap.size Q v ∧ Chg (fun _ => False) w w' := by
  go_enter Tryz.func57, Tryz.ntmps57
  go_wp2_with (first | (go_at_call 85; refine (mk_K _).mono ?_; rintro e wK ⟨bsK, rfl, hpK, hcK⟩) | (go_at_call 86; refine (mk_T _).mono ?_; rintro e wT ⟨bsT, rfl, hpT, hcT⟩) | (go_at_call 87; refine (mk_L _).mono ?_; rintro e wL ⟨bsL, rfl, hpL, hcL⟩))
  go_ret2
  have hsK := hcK.size
  have hsT := hcT.size
  have hsL := hcL.size
  have hqK : IsPart wL w.heap.size .K bsK := ((hpK.chg hcT (fun _ _ h => h)).chg hcL (fun _ _ h => h)).low (by omega)
  have hqT : IsPart wL w.heap.size .T bsT := (hpT.chg hcL (fun _ _ h => h)).low (by omega)
  have hqL : IsPart wL w.heap.size .L bsL := hpL.low (by omega)
  exact ⟨_, [(.K, bsK), (.T, bsT), (.L, bsL)], rfl, rfl, ps_new wL w.heap.size [(.K, bsK), (.T, bsT), (.L, bsL)] _ _ rfl (by omega) (List.forall_mem_cons.2 ⟨hqK, (List.forall_mem_cons.2 ⟨hqT, (List.forall_mem_cons.2 ⟨hqL, (fun x hx => by simp at hx)⟩)⟩)⟩), (((hcK.trans hcT).trans hcL)).alloc _⟩

set_option maxHeartbeats 2000000 in
set_option maxRecDepth 100000 in
theorem parts_4 (w : World) : Calls Tryz.prog 57 #[.int .u8 4] w fun e w' => ∃ v Q, e = .returned (.tuple #[v, .bool true]) ∧ Q.map Prod.fst = [Wm.Fd.K, Wm.Fd.V] ∧ IsPs w' w.heap.size Q v ∧ Chg (fun _ => False) w w' := by
  go_enter Tryz.func57, Tryz.ntmps57
  go_wp2_with (first | (go_at_call 85; refine (mk_K _).mono ?_; rintro e wK ⟨bsK, rfl, hpK, hcK⟩) | (go_at_call 88; refine (mk_V _).mono ?_; rintro e wV ⟨bsV, rfl, hpV, hcV⟩))
  go_ret2
  have hsK := hcK.size
  have hsV := hcV.size
  have hqK : IsPart wV w.heap.size .K bsK := (hpK.chg hcV (fun _ _ h => h)).low (by omega)
  have hqV : IsPart wV w.heap.size .V bsV := hpV.low (by omega)
  exact ⟨_, [(.K, bsK), (.V, bsV)], rfl, rfl, ps_new wV w.heap.size [(.K, bsK), (.V, bsV)] _ _ rfl (by omega) (List.forall_mem_cons.2 ⟨hqK, (List.forall_mem_cons.2 ⟨hqV, (fun x hx => by simp at hx)⟩)⟩), ((hcK.trans hcV)).alloc _⟩

set_option maxHeartbeats 2000000 in
set_option maxRecDepth 100000 in
theorem parts_5 (w : World) : Calls Tryz.prog 57 #[.int .u8 5] w fun e w' => ∃ v Q, e = .returned (.tuple #[v, .bool true]) ∧ Q.map Prod.fst = [Wm.Fd.K] ∧ IsPs w' w.heap.size Q v ∧ Chg (fun _ => False) w w' := by
  go_enter Tryz.func57, Tryz.ntmps57
  go_wp2_with (first | (go_at_call 85; refine (mk_K _).mono ?_; rintro e wK ⟨bsK, rfl, hpK, hcK⟩))
  go_ret2
  have hsK := hcK.size
  have hqK : IsPart wK w.heap.size .K bsK := hpK.low (by omega)
  exact ⟨_, [(.K, bsK)], rfl, rfl, ps_new wK w.heap.size [(.K, bsK)] _ _ rfl (by omega) (List.forall_mem_cons.2 ⟨hqK, (fun x hx => by simp at hx)⟩), (hcK).alloc _⟩

set_option maxHeartbeats 2000000 in
set_option maxRecDepth 100000 in
theorem parts_6 (w : World) : Calls Tryz.prog 57 #[.int .u8 6] w fun e w' => ∃ v Q, e = .returned (.tuple #[v, .bool true]) ∧ Q.map Prod.fst = [Wm.Fd.V] ∧ IsPs w' w.heap.size Q v ∧ Chg (fun _ => False) w w' := by
  go_enter Tryz.func57, Tryz.ntmps57
  go_wp2_with (first | (go_at_call 88; refine (mk_V _).mono ?_; rintro e wV ⟨bsV, rfl, hpV, hcV⟩))
  go_ret2
  have hsV := hcV.size
  have hqV : IsPart wV w.heap.size .V bsV := hpV.low (by omega)
  exact ⟨_, [(.V, bsV)], rfl, rfl, ps_new wV w.heap.size [(.V, bsV)] _ _ rfl (by omega) (List.forall_mem_cons.2 ⟨hqV, (fun x hx => by simp at hx)⟩), (hcV).alloc _⟩

set_option maxHeartbeats 2000000 in
set_option maxRecDepth 100000 in
theorem parts_7 (w : World) : Calls Tryz.prog 57 #[.int .u8 7] w fun e w' => ∃ v Q, e = .returned (.tuple #[v, .bool true]) ∧ Q.map Prod.fst = [] ∧ IsPs w' w.heap.size Q v ∧ Chg (fun _ => False) w w' := by
  go_enter Tryz.func57, Tryz.ntmps57
  go_wp2_with fail
  go_ret2
  exact ⟨_, [], rfl, rfl, ps_none _ _, Chg.refl _ _⟩

set_option maxHeartbeats 2000000 in
set_option maxRecDepth 100000 in
theorem parts_8 (w : World) : Calls Tryz.prog 57 #[.int .u8 8] w fun e w' => ∃ v Q, e = .returned (.tuple #[v, .bool true]) ∧ Q.map Prod.fst = [Wm.Fd.K] ∧ IsPs w' w.heap.size Q v ∧ Chg (fun _ => False) w w' := by
  go_enter Tryz.func57, Tryz.ntmps57
  go_wp2_with (first | (go_at_call 85; refine (mk_K _).mono ?_; rintro e wK ⟨bsK, rfl, hpK, hcK⟩))
  go_ret2
  have hsK := hcK.size
  have hqK : IsPart wK w.heap.size .K bsK := hpK.low (by omega)
  exact ⟨_, [(.K, bsK)], rfl, rfl, ps_new wK w.heap.size [(.K, bsK)] _ _ rfl (by omega) (List.forall_mem_cons.2 ⟨hqK, (fun x hx => by simp at hx)⟩), (hcK).alloc _⟩

set_option maxHeartbeats 2000000 in
set_option maxRecDepth 100000 in
theorem parts_9 (w : World) : Calls Tryz.prog 57 #[.int .u8 9] w fun e w' => ∃ v Q, e = .returned (.tuple #[v, .bool true]) ∧ Q.map Prod.fst = [Wm.Fd.K, Wm.Fd.T] ∧ IsPs w' w.heap.size Q v ∧ Chg (fun _ => False) w w' := by
  go_enter Tryz.func57, Tryz.ntmps57
  go_wp2_with (first | (go_at_call 85; refine (mk_K _).mono ?_; rintro e wK ⟨bsK, rfl, hpK, hcK⟩) | (go_at_call 86; refine (mk_T _).mono ?_; rintro e wT ⟨bsT, rfl, hpT, hcT⟩))
  go_ret2
  have hsK := hcK.size
  have hsT := hcT.size
  have hqK : IsPart wT w.heap.size .K bsK := (hpK.chg hcT (fun _ _ h => h)).low (by omega)
  have hqT : IsPart wT w.heap.size .T bsT := hpT.low (by omega)
  exact ⟨_, [(.K, bsK), (.T, bsT)], rfl, rfl, ps_new wT w.heap.size [(.K, bsK), (.T, bsT)] _ _ rfl (by omega) (List.forall_mem_cons.2 ⟨hqK, (List.forall_mem_cons.2 ⟨hqT, (fun x hx => by simp at hx)⟩)⟩), ((hcK.trans hcT)).alloc _⟩

set_option maxHeartbeats 2000000 in
set_option maxRecDepth 100000 in
theorem parts_10 (w : World) : Calls Tryz.prog 57 #[.int .u8 10] w fun e w' => ∃ v Q, e = .returned (.tuple #[v, .bool true]) ∧ Q.map Prod.fst = [Wm.Fd.F, Wm.Fd.S] ∧ IsPs w' w.heap.size Q v ∧ Chg (fun _ => False) w w' := by
  go_enter Tryz.func57, Tryz.ntmps57
  go_wp2_with (first | (go_at_call 84; refine (mk_F _).mono ?_; rintro e wF ⟨bsF, rfl, hpF, hcF⟩) | (go_at_call 89; refine (mk_S _).mono ?_; rintro e wS ⟨bsS, rfl, hpS, hcS⟩))
  go_ret2
  have hsF := hcF.size
  have hsS := hcS.size
  have hqF : IsPart wS w.heap.size .F bsF := (hpF.chg hcS (fun _ _ h => h)).low (by omega)
  have hqS : IsPart wS w.heap.size .S bsS := hpS.low (by omega)
  exact ⟨_, [(.F, bsF), (.S, bsS)], rfl, rfl, ps_new wS w.heap.size [(.F, bsF), (.S, bsS)] _ _ rfl (by omega) (List.forall_mem_cons.2 ⟨hqF, (List.forall_mem_cons.2 ⟨hqS, (fun x hx => by simp at hx)⟩)⟩), ((hcF.trans hcS)).alloc _⟩

set_option maxHeartbeats 2000000 in
set_option maxRecDepth 100000 in
theorem parts_11 (w : World) : Calls Tryz.prog 57 #[.int .u8 11] w fun e w' => ∃ v Q, e = .returned (.tuple #[v, .bool true]) ∧ Q.map Prod.fst = [Wm.Fd.F, Wm.Fd.S] ∧ IsPs w' w.heap.size Q v ∧ Chg (fun _ => False) w w' := by
  go_enter Tryz.func57, Tryz.ntmps57
  go_wp2_with (first | (go_at_call 84; refine (mk_F _).mono ?_; rintro e wF ⟨bsF, rfl, hpF, hcF⟩) | (go_at_call 89; refine (mk_S _).mono ?_; rintro e wS ⟨bsS, rfl, hpS, hcS⟩))
  go_ret2
  have hsF := hcF.size
  have hsS := hcS.size
  have hqF : IsPart wS w.heap.size .F bsF := (hpF.chg hcS (fun _ _ h => h)).low (by omega)
  have hqS : IsPart wS w.heap.size .S bsS := hpS.low (by omega)
  exact ⟨_, [(.F, bsF), (.S, bsS)], rfl, rfl, ps_new wS w.heap.size [(.F, bsF), (.S, bsS)] _ _ rfl (by omega) (List.forall_mem_cons.2 ⟨hqF, (List.forall_mem_cons.2 ⟨hqS, (fun x hx => by simp at hx)⟩)⟩), ((hcF.trans hcS)).alloc _⟩

set_option maxHeartbeats 2000000 in
set_option maxRecDepth 100000 in
theorem parts_12 (w : World) : Calls Tryz.prog 57 #[.int .u8 12] w fun e w' => ∃ v Q, e = .returned (.tuple #[v, .bool true]) ∧ Q.map Prod.fst = [Wm.Fd.W] ∧ IsPs w' w.heap.size Q v ∧ Chg (fun _ => False) w w' := by
  go_enter Tryz.func57, Tryz.ntmps57
  go_wp2_with (first | (go_at_call 90; refine (mk_list_int 91 33 92 93 94 _).mono ?_; rintro e wW ⟨bsW, rfl, haW, hbW, hcW⟩; have hpW : IsPart wW _ .W bsW := ⟨haW, hbW⟩))
  go_ret2
  have hsW := hcW.size
  have hqW : IsPart wW w.heap.size .W bsW := hpW.low (by omega)
  exact ⟨_, [(.W, bsW)], rfl, rfl, ps_new wW w.heap.size [(.W, bsW)] _ _ rfl (by omega) (List.forall_mem_cons.2 ⟨hqW, (fun x hx => by simp at hx)⟩), (hcW).alloc _⟩

set_option maxHeartbeats 2000000 in
set_option maxRecDepth 100000 in
theorem parts_21 (w : World) : Calls Tryz.prog 57 #[.int .u8 21] w fun e w' => ∃ v Q, e = .returned (.tuple #[v, .bool true]) ∧ Q.map Prod.fst = [Wm.Fd.f] ∧ IsPs w' w.heap.size Q v ∧ Chg (fun _ => False) w w' := by
  have HT := Lib.hid (told_21 w)
  go_enter Tryz.func57, Tryz.ntmps57
  go_wp2_with fail
  refine HT.out.mono ?_
  rintro e w1 ⟨v, Q, rfl, hQ, hps, hc⟩
  have H := Lib.hid (And.intro hQ (And.intro hps hc))
  clear hQ hps hc
  go_wp2_with fail
  go_ret2
  exact ⟨v, Q, rfl, H.out⟩

set_option maxHeartbeats 2000000 in
set_option maxRecDepth 100000 in
theorem parts_22 (w : World) : Calls Tryz.prog 57 #[.int .u8 22] w fun e w' => ∃ v Q, e = .returned (.tuple #[v, .bool true]) ∧ Q.map Prod.fst = [Wm.Fd.C] ∧ IsPs w' w.heap.size Q v ∧ Chg (fun _ => False) w w' := by
  have HT := Lib.hid (told_22 w)
  go_enter Tryz.func57, Tryz.ntmps57
  go_wp2_with fail
  refine HT.out.mono ?_
  rintro e w1 ⟨v, Q, rfl, hQ, hps, hc⟩
  have H := Lib.hid (And.intro hQ (And.intro hps hc))
  clear hQ hps hc
  go_wp2_with fail
  go_ret2
  exact ⟨v, Q, rfl, H.out⟩

set_option maxHeartbeats 2000000 in
set_option maxRecDepth 100000 in
theorem parts_23 (w : World) : Calls Tryz.prog 57 #[.int .u8 23] w fun e w' => ∃ v Q, e = .returned (.tuple #[v, .bool true]) ∧ Q.map Prod.fst = [Wm.Fd.H, Wm.Fd.E, Wm.Fd.t, Wm.Fd.s] ∧ IsPs w' w.heap.size Q v ∧ Chg (fun _ => False) w w' := by
  have HT := Lib.hid (told_23 w)
  go_enter Tryz.func57, Tryz.ntmps57
  go_wp2_with fail
  refine HT.out.mono ?_
  rintro e w1 ⟨v, Q, rfl, hQ, hps, hc⟩
  have H := Lib.hid (And.intro hQ (And.intro hps hc))
  clear hQ hps hc
  go_wp2_with fail
  go_ret2
  exact ⟨v, Q, rfl, H.out⟩

set_option maxHeartbeats 2000000 in
set_option maxRecDepth 100000 in
theorem parts_24 (w : World) : Calls Tryz.prog 57 #[.int .u8 24] w fun e w' => ∃ v Q, e = .returned (.tuple #[v, .bool true]) ∧ Q.map Prod.fst = [Wm.Fd.f, Wm.Fd.V] ∧ IsPs w' w.heap.size Q v ∧ Chg (fun _ => False) w w' := by
  have HT := Lib.hid (told_24 w)
  go_enter Tryz.func57, Tryz.ntmps57
  go_wp2_with fail
  refine HT.out.mono ?_
  rintro e w1 ⟨v, Q, rfl, hQ, hps, hc⟩
  have H := Lib.hid (And.intro hQ (And.intro hps hc))
  clear hQ hps hc
  go_wp2_with fail
  go_ret2
  exact ⟨v, Q, rfl, H.out⟩

set_option maxHeartbeats 2000000 in
set_option maxRecDepth 100000 in
theorem parts_25 (w : World) : Calls Tryz.prog 57 #[.int .u8 25] w fun e w' => ∃ v Q, e = .returned (.tuple #[v, .bool true]) ∧ Q.map Prod.fst = [Wm.Fd.P, Wm.Fd.m] ∧ IsPs w' w.heap.size Q v ∧ Chg (fun _ => False) w w' := by
  have HT := Lib.hid (told_25 w)
  go_enter Tryz.func57, Tryz.ntmps57
  go_wp2_with fail
  refine HT.out.mono ?_
  rintro e w1 ⟨v, Q, rfl, hQ, hps, hc⟩
  have H := Lib.hid (And.intro hQ (And.intro hps hc))
  clear hQ hps hc
  go_wp2_with fail
  go_ret2
  exact ⟨v, Q, rfl, H.out⟩

set_option maxHeartbeats 2000000 in
set_option maxRecDepth 100000 in
theorem parts_26 (w : World) : Calls Tryz.prog 57 #[.int .u8 26] w fun e w' => ∃ v Q, e = .returned (.tuple #[v, .bool true]) ∧ Q.map Prod.fst = [Wm.Fd.B] ∧ IsPs w' w.heap.size Q v ∧ Chg (fun _ => False) w w' := by
  have HT := Lib.hid (told_26 w)
  go_enter Tryz.func57, Tryz.ntmps57
  go_wp2_with fail
  refine HT.out.mono ?_
  rintro e w1 ⟨v, Q, rfl, hQ, hps, hc⟩
  have H := Lib.hid (And.intro hQ (And.intro hps hc))
  clear hQ hps hc
  go_wp2_with fail
  go_ret2
  exact ⟨v, Q, rfl, H.out⟩

set_option maxHeartbeats 2000000 in
set_option maxRecDepth 100000 in
theorem parts_27 (w : World) : Calls Tryz.prog 57 #[.int .u8 27] w fun e w' => ∃ v Q, e = .returned (.tuple #[v, .bool true]) ∧ Q.map Prod.fst = [Wm.Fd.E, Wm.Fd.t] ∧ IsPs w' w.heap.size Q v ∧ Chg (fun _ => False) w w' := by
  have HT := Lib.hid (told_27 w)
  go_enter Tryz.func57, Tryz.ntmps57
  go_wp2_with fail
  refine HT.out.mono ?_
  rintro e w1 ⟨v, Q, rfl, hQ, hps, hc⟩
  have H := Lib.hid (And.intro hQ (And.intro hps hc))
  clear hQ hps hc
  go_wp2_with fail
  go_ret2
  exact ⟨v, Q, rfl, H.out⟩

set_option maxHeartbeats 2000000 in
set_option maxRecDepth 100000 in
theorem parts_28 (w : World) : Calls Tryz.prog 57 #[.int .u8 28] w fun e w' => ∃ v Q, e = .returned (.tuple #[v, .bool true]) ∧ Q.map Prod.fst = [Wm.Fd.t] ∧ IsPs w' w.heap.size Q v ∧ Chg (fun _ => False) w w' := by
  have HT := Lib.hid (told_28 w)
  go_enter Tryz.func57, Tryz.ntmps57
  go_wp2_with fail
  refine HT.out.mono ?_
  rintro e w1 ⟨v, Q, rfl, hQ, hps, hc⟩
  have H := Lib.hid (And.intro hQ (And.intro hps hc))
  clear hQ hps hc
  go_wp2_with fail
  go_ret2
  exact ⟨v, Q, rfl, H.out⟩

set_option maxHeartbeats 2000000 in
set_option maxRecDepth 100000 in
theorem parts_29 (w : World) : Calls Tryz.prog 57 #[.int .u8 29] w fun e w' => ∃ v Q, e = .returned (.tuple #[v, .bool true]) ∧ Q.map Prod.fst = [Wm.Fd.B] ∧ IsPs w' w.heap.size Q v ∧ Chg (fun _ => False) w w' := by
  have HT := Lib.hid (told_29 w)
  go_enter Tryz.func57, Tryz.ntmps57
  go_wp2_with fail
  refine HT.out.mono ?_
  rintro e w1 ⟨v, Q, rfl, hQ, hps, hc⟩
  have H := Lib.hid (And.intro hQ (And.intro hps hc))
  clear hQ hps hc
  go_wp2_with fail
  go_ret2
  exact ⟨v, Q, rfl, H.out⟩

set_option maxHeartbeats 2000000 in
set_option maxRecDepth 100000 in
theorem parts_no (k : Nat) (hk : k < 1 ∨ (12 < k ∧ k < 21) ∨ 29 < k) (w : World) : Calls Tryz.prog 57 #[.int .u8 k] w fun e w' => e = .returned (.tuple #[.slice none 0 0, .bool false]) ∧ Chg (fun _ => False) w w' := by
  have HT := Lib.hid (told_no k (by omega) w)
  have d1 : decide ((k : Int) = 1) = false := decide_eq_false (by omega)
  have n1 : ((k : Int) == 1) = false := beq_eq_false_iff_ne.2 (by omega)
  have d2 : decide ((k : Int) = 2) = false := decide_eq_false (by omega)
  have n2 : ((k : Int) == 2) = false := beq_eq_false_iff_ne.2 (by omega)
  have d3 : decide ((k : Int) = 3) = false := decide_eq_false (by omega)
  have n3 : ((k : Int) == 3) = false := beq_eq_false_iff_ne.2 (by omega)
  have d4 : decide ((k : Int) = 4) = false := decide_eq_false (by omega)
  have n4 : ((k : Int) == 4) = false := beq_eq_false_iff_ne.2 (by omega)
  have d5 : decide ((k : Int) = 5) = false := decide_eq_false (by omega)
  have n5 : ((k : Int) == 5) = false := beq_eq_false_iff_ne.2 (by omega)
  have d6 : decide ((k : Int) = 6) = false := decide_eq_false (by omega)
  have n6 : ((k : Int) == 6) = false := beq_eq_false_iff_ne.2 (by omega)
  have d7 : decide ((k : Int) = 7) = false := decide_eq_false (by omega)
  have n7 : ((k : Int) == 7) = false := beq_eq_false_iff_ne.2 (by omega)
  have d8 : decide ((k : Int) = 8) = false := decide_eq_false (by omega)
  have n8 : ((k : Int) == 8) = false := beq_eq_false_iff_ne.2 (by omega)
  have d9 : decide ((k : Int) = 9) = false := decide_eq_false (by omega)
  have n9 : ((k : Int) == 9) = false := beq_eq_false_iff_ne.2 (by omega)
  have d10 : decide ((k : Int) = 10) = false := decide_eq_false (by omega)
  have n10 : ((k : Int) == 10) = false := beq_eq_false_iff_ne.2 (by omega)
  have d11 : decide ((k : Int) = 11) = false := decide_eq_false (by omega)
  have n11 : ((k : Int) == 11) = false := beq_eq_false_iff_ne.2 (by omega)
  have d12 : decide ((k : Int) = 12) = false := decide_eq_false (by omega)
  have n12 : ((k : Int) == 12) = false := beq_eq_false_iff_ne.2 (by omega)
  clear hk
  go_enter Tryz.func57, Tryz.ntmps57
  go_wp2_with fail
  refine HT.out.mono ?_
  rintro e w1 ⟨rfl, hc⟩
  go_wp2_with fail
  go_ret2
  exact ⟨rfl, hc⟩
theorem fields_no (k : Nat) (hk : k < 1 ∨ (12 < k ∧ k < 21) ∨ 29 < k) : Wm.fields k = none := by
  unfold Wm.fields
  repeat' rw [if_neg (by omega)]
theorem parts_calls (k : Nat) (w : World) : Calls Tryz.prog 57 #[.int .u8 k] w fun e w' => ∃ v Q, e = .returned (.tuple #[v, .bool (Wm.fields k).isSome]) ∧ Q.map Prod.fst = (Wm.fields k).getD [] ∧ IsPs w' w.heap.size Q v ∧ Chg (fun _ => False) w w' := by
  by_cases h : k < 1 ∨ (12 < k ∧ k < 21) ∨ 29 < k
  · rw [fields_no k h]
    exact (parts_no k h w).mono fun e w' ⟨h1, h2⟩ => ⟨_, [], h1, rfl, ps_none _ _, h2⟩
  · have : k = 1 ∨ k = 2 ∨ k = 3 ∨ k = 4 ∨ k = 5 ∨ k = 6 ∨ k = 7 ∨ k = 8 ∨ k = 9 ∨ k = 10 ∨ k = 11 ∨ k = 12 ∨ k = 21 ∨ k = 22 ∨ k = 23 ∨ k = 24 ∨ k = 25 ∨ k = 26 ∨ k = 27 ∨ k = 28 ∨ k = 29 := by omega
    rcases this with rfl | rfl | rfl | rfl | rfl | rfl | rfl | rfl | rfl | rfl | rfl | rfl | rfl | rfl | rfl | rfl | rfl | rfl | rfl | rfl | rfl
    · exact parts_1 w
    · exact parts_2 w
    · exact parts_3 w
    · exact parts_4 w
    · exact parts_5 w
    · exact parts_6 w
    · exact parts_7 w
    · exact parts_8 w
    · exact parts_9 w
    · exact parts_10 w
    · exact parts_11 w
    · exact parts_12 w
    · exact parts_21 w
    · exact parts_22 w
    · exact parts_23 w
    · exact parts_24 w
    · exact parts_25 w
    · exact parts_26 w
    · exact parts_27 w
    · exact parts_28 w
    · exact parts_29 w
end Go.Proofs.YthkfcfkkamffpaaGreat
