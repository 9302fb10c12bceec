/-
  Layer 27: the document's field. Printed by gen_zv.py.
-/
import Derived.Test.YthkfcfkkamffpaaGreatYj
import Derived.Test.YthkfcfkkamffpaaGreatYi
import Derived.Test.YthkfcfkkamffpaaGreatRef
import Derived.BigRegion
import Derived.Deep.RegionHeld3
namespace Go.Proofs.YthkfcfkkamffpaaGreat
open Go.RowKit
set_option linter.unusedVariables false
set_option linter.unusedSimpArgs false
open Wm (M)
/-- a field's letter -/
def letr : Wm.Fd → UInt8
  | .K => 75
  | .T => 84
  | .V => 86
  | .L => 76
  | .F => 70
  | .S => 83
  | .f => 102
  | .m => 109
  | .C => 67
  | .H => 72
  | .E => 69
  | .t => 116
  | .s => 115
  | .P => 80
  | .W => 87
  | .B => 66
def fieldS (k : Nat) : List UInt8 := match Wm.fields k with
  | none => [45]
  | some l => l.map letr
set_option maxHeartbeats 2000000 in
set_option maxRecDepth 100000 in
theorem rfields_1 (w : World) : Calls Tryz.prog 36 #[.int .u8 1] w fun e w' => e = .returned (S [70]) ∧ w = w' := by
  go_enter Tryz.func36, Tryz.ntmps36
  go_wp2_with fail
  go_ret
  exact ⟨rfl, rfl⟩
set_option maxHeartbeats 2000000 in
set_option maxRecDepth 100000 in
theorem rfields_2 (w : World) : Calls Tryz.prog 36 #[.int .u8 2] w fun e w' => e = .returned (S [75]) ∧ w = w' := by
  go_enter Tryz.func36, Tryz.ntmps36
  go_wp2_with fail
  go_ret
  exact ⟨rfl, rfl⟩
set_option maxHeartbeats 2000000 in
set_option maxRecDepth 100000 in
theorem rfields_3 (w : World) : Calls Tryz.prog 36 #[.int .u8 3] w fun e w' => e = .returned (S [75, 84, 76]) ∧ w = w' := by
  go_enter Tryz.func36, Tryz.ntmps36
  go_wp2_with fail
  go_ret
  exact ⟨rfl, rfl⟩
set_option maxHeartbeats 2000000 in
set_option maxRecDepth 100000 in
theorem rfields_4 (w : World) : Calls Tryz.prog 36 #[.int .u8 4] w fun e w' => e = .returned (S [75, 86]) ∧ w = w' := by
  go_enter Tryz.func36, Tryz.ntmps36
  go_wp2_with fail
  go_ret
  exact ⟨rfl, rfl⟩
set_option maxHeartbeats 2000000 in
set_option maxRecDepth 100000 in
theorem rfields_5 (w : World) : Calls Tryz.prog 36 #[.int .u8 5] w fun e w' => e = .returned (S [75]) ∧ w = w' := by
  go_enter Tryz.func36, Tryz.ntmps36
  go_wp2_with fail
  go_ret
  exact ⟨rfl, rfl⟩
set_option maxHeartbeats 2000000 in
set_option maxRecDepth 100000 in
theorem rfields_6 (w : World) : Calls Tryz.prog 36 #[.int .u8 6] w fun e w' => e = .returned (S [86]) ∧ w = w' := by
  go_enter Tryz.func36, Tryz.ntmps36
  go_wp2_with fail
  go_ret
  exact ⟨rfl, rfl⟩
set_option maxHeartbeats 2000000 in
set_option maxRecDepth 100000 in
theorem rfields_7 (w : World) : Calls Tryz.prog 36 #[.int .u8 7] w fun e w' => e = .returned (S []) ∧ w = w' := by
  go_enter Tryz.func36, Tryz.ntmps36
  go_wp2_with fail
  go_ret
  exact ⟨rfl, rfl⟩
set_option maxHeartbeats 2000000 in
set_option maxRecDepth 100000 in
theorem rfields_8 (w : World) : Calls Tryz.prog 36 #[.int .u8 8] w fun e w' => e = .returned (S [75]) ∧ w = w' := by
  go_enter Tryz.func36, Tryz.ntmps36
  go_wp2_with fail
  go_ret
  exact ⟨rfl, rfl⟩
set_option maxHeartbeats 2000000 in
set_option maxRecDepth 100000 in
theorem rfields_9 (w : World) : Calls Tryz.prog 36 #[.int .u8 9] w fun e w' => e = .returned (S [75, 84]) ∧ w = w' := by
  go_enter Tryz.func36, Tryz.ntmps36
  go_wp2_with fail
  go_ret
  exact ⟨rfl, rfl⟩
set_option maxHeartbeats 2000000 in
set_option maxRecDepth 100000 in
theorem rfields_10 (w : World) : Calls Tryz.prog 36 #[.int .u8 10] w fun e w' => e = .returned (S [70, 83]) ∧ w = w' := by
  go_enter Tryz.func36, Tryz.ntmps36
  go_wp2_with fail
  go_ret
  exact ⟨rfl, rfl⟩
set_option maxHeartbeats 2000000 in
set_option maxRecDepth 100000 in
theorem rfields_11 (w : World) : Calls Tryz.prog 36 #[.int .u8 11] w fun e w' => e = .returned (S [70, 83]) ∧ w = w' := by
  go_enter Tryz.func36, Tryz.ntmps36
  go_wp2_with fail
  go_ret
  exact ⟨rfl, rfl⟩
set_option maxHeartbeats 2000000 in
set_option maxRecDepth 100000 in
theorem rfields_12 (w : World) : Calls Tryz.prog 36 #[.int .u8 12] w fun e w' => e = .returned (S [87]) ∧ w = w' := by
  go_enter Tryz.func36, Tryz.ntmps36
  go_wp2_with fail
  go_ret
  exact ⟨rfl, rfl⟩
set_option maxHeartbeats 2000000 in
set_option maxRecDepth 100000 in
theorem rfields_21 (w : World) : Calls Tryz.prog 36 #[.int .u8 21] w fun e w' => e = .returned (S [102]) ∧ w = w' := by
  go_enter Tryz.func36, Tryz.ntmps36
  go_wp2_with fail
  go_ret
  exact ⟨rfl, rfl⟩
set_option maxHeartbeats 2000000 in
set_option maxRecDepth 100000 in
theorem rfields_22 (w : World) : Calls Tryz.prog 36 #[.int .u8 22] w fun e w' => e = .returned (S [67]) ∧ w = w' := by
  go_enter Tryz.func36, Tryz.ntmps36
  go_wp2_with fail
  go_ret
  exact ⟨rfl, rfl⟩
set_option maxHeartbeats 2000000 in
set_option maxRecDepth 100000 in
theorem rfields_23 (w : World) : Calls Tryz.prog 36 #[.int .u8 23] w fun e w' => e = .returned (S [72, 69, 116, 115]) ∧ w = w' := by
  go_enter Tryz.func36, Tryz.ntmps36
  go_wp2_with fail
  go_ret
  exact ⟨rfl, rfl⟩
set_option maxHeartbeats 2000000 in
set_option maxRecDepth 100000 in
theorem rfields_24 (w : World) : Calls Tryz.prog 36 #[.int .u8 24] w fun e w' => e = .returned (S [102, 86]) ∧ w = w' := by
  go_enter Tryz.func36, Tryz.ntmps36
  go_wp2_with fail
  go_ret
  exact ⟨rfl, rfl⟩
set_option maxHeartbeats 2000000 in
set_option maxRecDepth 100000 in
theorem rfields_25 (w : World) : Calls Tryz.prog 36 #[.int .u8 25] w fun e w' => e = .returned (S [80, 109]) ∧ w = w' := by
  go_enter Tryz.func36, Tryz.ntmps36
  go_wp2_with fail
  go_ret
  exact ⟨rfl, rfl⟩
set_option maxHeartbeats 2000000 in
set_option maxRecDepth 100000 in
theorem rfields_26 (w : World) : Calls Tryz.prog 36 #[.int .u8 26] w fun e w' => e = .returned (S [66]) ∧ w = w' := by
  go_enter Tryz.func36, Tryz.ntmps36
  go_wp2_with fail
  go_ret
  exact ⟨rfl, rfl⟩
set_option maxHeartbeats 2000000 in
set_option maxRecDepth 100000 in
theorem rfields_27 (w : World) : Calls Tryz.prog 36 #[.int .u8 27] w fun e w' => e = .returned (S [69, 116]) ∧ w = w' := by
  go_enter Tryz.func36, Tryz.ntmps36
  go_wp2_with fail
  go_ret
  exact ⟨rfl, rfl⟩
set_option maxHeartbeats 2000000 in
set_option maxRecDepth 100000 in
theorem rfields_28 (w : World) : Calls Tryz.prog 36 #[.int .u8 28] w fun e w' => e = .returned (S [116]) ∧ w = w' := by
  go_enter Tryz.func36, Tryz.ntmps36
  go_wp2_with fail
  go_ret
  exact ⟨rfl, rfl⟩
set_option maxHeartbeats 2000000 in
set_option maxRecDepth 100000 in
theorem rfields_29 (w : World) : Calls Tryz.prog 36 #[.int .u8 29] w fun e w' => e = .returned (S [66]) ∧ w = w' := by
  go_enter Tryz.func36, Tryz.ntmps36
  go_wp2_with fail
  go_ret
  exact ⟨rfl, rfl⟩
set_option maxHeartbeats 4000000 in
set_option maxRecDepth 100000 in
theorem rfields_no (k : Nat) (hk : k < 256) (h1 : k ≠ 1) (h2 : k ≠ 2) (h3 : k ≠ 3) (h4 : k ≠ 4) (h5 : k ≠ 5) (h6 : k ≠ 6) (h7 : k ≠ 7) (h8 : k ≠ 8) (h9 : k ≠ 9) (h10 : k ≠ 10) (h11 : k ≠ 11) (h12 : k ≠ 12) (h21 : k ≠ 21) (h22 : k ≠ 22) (h23 : k ≠ 23) (h24 : k ≠ 24) (h25 : k ≠ 25) (h26 : k ≠ 26) (h27 : k ≠ 27) (h28 : k ≠ 28) (h29 : k ≠ 29) (w : World) : Calls Tryz.prog 36 #[.int .u8 k] w fun e w' => e = .returned (S [45]) ∧ w = w' := by
  have q1 : ((k : Int) == 1) = false := by rw [beq_eq_false_iff_ne]; omega
  have q2 : ((k : Int) == 2) = false := by rw [beq_eq_false_iff_ne]; omega
  have q3 : ((k : Int) == 3) = false := by rw [beq_eq_false_iff_ne]; omega
  have q4 : ((k : Int) == 4) = false := by rw [beq_eq_false_iff_ne]; omega
  have q5 : ((k : Int) == 5) = false := by rw [beq_eq_false_iff_ne]; omega
  have q6 : ((k : Int) == 6) = false := by rw [beq_eq_false_iff_ne]; omega
  have q7 : ((k : Int) == 7) = false := by rw [beq_eq_false_iff_ne]; omega
  have q8 : ((k : Int) == 8) = false := by rw [beq_eq_false_iff_ne]; omega
  have q9 : ((k : Int) == 9) = false := by rw [beq_eq_false_iff_ne]; omega
  have q10 : ((k : Int) == 10) = false := by rw [beq_eq_false_iff_ne]; omega
  have q11 : ((k : Int) == 11) = false := by rw [beq_eq_false_iff_ne]; omega
  have q12 : ((k : Int) == 12) = false := by rw [beq_eq_false_iff_ne]; omega
  have q21 : ((k : Int) == 21) = false := by rw [beq_eq_false_iff_ne]; omega
  have q22 : ((k : Int) == 22) = false := by rw [beq_eq_false_iff_ne]; omega
  have q23 : ((k : Int) == 23) = false := by rw [beq_eq_false_iff_ne]; omega
  have q24 : ((k : Int) == 24) = false := by rw [beq_eq_false_iff_ne]; omega
  have q25 : ((k : Int) == 25) = false := by rw [beq_eq_false_iff_ne]; omega
  have q26 : ((k : Int) == 26) = false := by rw [beq_eq_false_iff_ne]; omega
  have q27 : ((k : Int) == 27) = false := by rw [beq_eq_false_iff_ne]; omega
  have q28 : ((k : Int) == 28) = false := by rw [beq_eq_false_iff_ne]; omega
  have q29 : ((k : Int) == 29) = false := by rw [beq_eq_false_iff_ne]; omega
  clear h1 h2 h3 h4 h5 h6 h7 h8 h9 h10 h11 h12 h21 h22 h23 h24 h25 h26 h27 h28 h29
  go_enter Tryz.func36, Tryz.ntmps36
  go_wp2_with fail
  go_ret
  exact ⟨rfl, rfl⟩
theorem rfields_calls (k : Nat) (hk : k < 256) (w : World) : Calls Tryz.prog 36 #[.int .u8 k] w fun e w' => e = .returned (S (fieldS k)) ∧ w = w' := by
  by_cases h1 : k = 1
  · subst h1; exact rfields_1 w
  by_cases h2 : k = 2
  · subst h2; exact rfields_2 w
  by_cases h3 : k = 3
  · subst h3; exact rfields_3 w
  by_cases h4 : k = 4
  · subst h4; exact rfields_4 w
  by_cases h5 : k = 5
  · subst h5; exact rfields_5 w
  by_cases h6 : k = 6
  · subst h6; exact rfields_6 w
  by_cases h7 : k = 7
  · subst h7; exact rfields_7 w
  by_cases h8 : k = 8
  · subst h8; exact rfields_8 w
  by_cases h9 : k = 9
  · subst h9; exact rfields_9 w
  by_cases h10 : k = 10
  · subst h10; exact rfields_10 w
  by_cases h11 : k = 11
  · subst h11; exact rfields_11 w
  by_cases h12 : k = 12
  · subst h12; exact rfields_12 w
  by_cases h21 : k = 21
  · subst h21; exact rfields_21 w
  by_cases h22 : k = 22
  · subst h22; exact rfields_22 w
  by_cases h23 : k = 23
  · subst h23; exact rfields_23 w
  by_cases h24 : k = 24
  · subst h24; exact rfields_24 w
  by_cases h25 : k = 25
  · subst h25; exact rfields_25 w
  by_cases h26 : k = 26
  · subst h26; exact rfields_26 w
  by_cases h27 : k = 27
  · subst h27; exact rfields_27 w
  by_cases h28 : k = 28
  · subst h28; exact rfields_28 w
  by_cases h29 : k = 29
  · subst h29; exact rfields_29 w
  have e : fieldS k = [45] := by unfold fieldS Wm.fields; simp only [if_neg h1, if_neg h2, if_neg h3, if_neg h4, if_neg h5, if_neg h6, if_neg h7, if_neg h8, if_neg h9, if_neg h10, if_neg h11, if_neg h12, if_neg h21, if_neg h22, if_neg h23, if_neg h24, if_neg h25, if_neg h26, if_neg h27, if_neg h28, if_neg h29]
  rw [e]
  exact rfields_no k hk h1 h2 h3 h4 h5 h6 h7 h8 h9 h10 h11 h12 h21 h22 h23 h24 h25 h26 h27 h28 h29 w
end Go.Proofs.YthkfcfkkamffpaaGreat
namespace Go.Proofs.YthkfcfkkamffpaaGreat
open Go.RowKit
set_option linter.unusedVariables false
set_option linter.unusedSimpArgs false
open Wm (M)
attribute [local go_sem ↓] ld_msg st_msg ld_head st_head ld_entry st_entry
set_option maxHeartbeats 4000000 in
set_option maxRecDepth 100000 in
theorem rwith_K (n m : M) (K L : Ls) (w : World) (hn : Dg n) (hm : Dg m) (hK : Slc K) (hl : IsL w m L) :
    Calls Tryz.prog 63 #[.agg (mcells n K), .agg (mcells m L), .int .u8 75] w fun e w' => e = .returned (.agg (mcells (Wm.put n m .K) (putL K L .K))) ∧ Chg (fun _ => False) w w' := by
  have b0 : IsM (((w.alloc (.cells (mcells n K) 36)).alloc (.cells (mcells m L) 36)).alloc (.cells Tryz.zeroCells36 36)) w.heap.size n K := ((Blk.new w 36 (mcells n K)).alloc _).alloc _
  have b1 : IsM (((w.alloc (.cells (mcells n K) 36)).alloc (.cells (mcells m L) 36)).alloc (.cells Tryz.zeroCells36 36)) (w.heap.size + 1) m L := by
    have := (Blk.new (w.alloc (.cells (mcells n K) 36)) 36 (mcells m L)).alloc (.cells Tryz.zeroCells36 36)
    simpa [IsM] using this
  have b2 : Blk (((w.alloc (.cells (mcells n K) 36)).alloc (.cells (mcells m L) 36)).alloc (.cells Tryz.zeroCells36 36)) (w.heap.size + 1 + 1) 36 Tryz.zeroCells36 := by
    have := Blk.new ((w.alloc (.cells (mcells n K) 36)).alloc (.cells (mcells m L) 36)) 36 Tryz.zeroCells36
    simpa using this
  have ch : Chg (fun _ => False) w (((w.alloc (.cells (mcells n K) 36)).alloc (.cells (mcells m L) 36)).alloc (.cells Tryz.zeroCells36 36)) := (((Chg.refl _ w).alloc _).alloc _).alloc _
  have hz : (((w.alloc (.cells (mcells n K) 36)).alloc (.cells (mcells m L) 36)).alloc (.cells Tryz.zeroCells36 36)).heap.size = w.heap.size + 1 + 1 + 1 := by simp
  go_enter Tryz.func63, Tryz.ntmps63
  go_upto_region 1 with fail
  generalize (((w.alloc (.cells (mcells n K) 36)).alloc (.cells (mcells m L) 36)).alloc (.cells Tryz.zeroCells36 36)) = W at *
  have hmf := b1.mf hm
  have u1 := hmf.key
  have u0 := (b0.mf hn).key
  have f0 := Blk.frozen b0 3
  have b3 : IsM (W.setCell ⟨w.heap.size, 3, none⟩ (S m.key)) w.heap.size { n with key := m.key } K := IsM.of (Blk.set_ b0 3 (S m.key)) (set_key n K m.key)
  have c3 : Chg (fun k => k = w.heap.size) W (W.setCell ⟨w.heap.size, 3, none⟩ (S m.key)) := (Chg.refl (fun k => k = w.heap.size) W).setCell (.inl rfl) _
  have hd3 : Dg { n with key := m.key } := ⟨hn.h, hn.e⟩
  have b4 : Blk (W.setCell ⟨w.heap.size, 3, none⟩ (S m.key)) (w.heap.size + 1 + 1) 36 Tryz.zeroCells36 := b2.chg c3 (by omega)
  have hlm := ldM hd3 b3
  have hsm := stM b4 (by rw [zero_msg]; exact mc_len _ _ (only_dg 0 0)) hd3 (show Slc (K) from hK)
  have hc4 : Chg (fun _ => False) w ((W.setCell ⟨w.heap.size, 3, none⟩ (S m.key)).setRow (w.heap.size + 1 + 1) (mcells { n with key := m.key } K)) := (ch.andThen c3 (fun k hk e => by omega)).setRow (.inr (by omega)) _
  have B4 := Lib.hid (Blk.setRow b4 (mcells { n with key := m.key } K))
  have HC := Lib.hid hc4
  have Hd3 := Lib.hid hd3
  clear b3 c3 b4 hc4 hd3 hmf b0 b1 b2 ch hn hm hK hl hz
  go_wp2_with fail
  refine bodyPost_ret (results_cell_row rfl _ _ (w.heap.size + 1 + 1) 36 (mcells { n with key := m.key } K) (0, 0) _ rfl B4.out Tryz.underlying36 rfl (by rw [mc_len _ _ Hd3.out]; exact info_msg)) rfl ?_
  exact ⟨rfl, HC.out⟩
set_option maxHeartbeats 4000000 in
set_option maxRecDepth 100000 in
theorem rwith_T (n m : M) (K L : Ls) (w : World) (hn : Dg n) (hm : Dg m) (hK : Slc K) (hl : IsL w m L) :
    Calls Tryz.prog 63 #[.agg (mcells n K), .agg (mcells m L), .int .u8 84] w fun e w' => e = .returned (.agg (mcells (Wm.put n m .T) (putL K L .T))) ∧ Chg (fun _ => False) w w' := by
  have b0 : IsM (((w.alloc (.cells (mcells n K) 36)).alloc (.cells (mcells m L) 36)).alloc (.cells Tryz.zeroCells36 36)) w.heap.size n K := ((Blk.new w 36 (mcells n K)).alloc _).alloc _
  have b1 : IsM (((w.alloc (.cells (mcells n K) 36)).alloc (.cells (mcells m L) 36)).alloc (.cells Tryz.zeroCells36 36)) (w.heap.size + 1) m L := by
    have := (Blk.new (w.alloc (.cells (mcells n K) 36)) 36 (mcells m L)).alloc (.cells Tryz.zeroCells36 36)
    simpa [IsM] using this
  have b2 : Blk (((w.alloc (.cells (mcells n K) 36)).alloc (.cells (mcells m L) 36)).alloc (.cells Tryz.zeroCells36 36)) (w.heap.size + 1 + 1) 36 Tryz.zeroCells36 := by
    have := Blk.new ((w.alloc (.cells (mcells n K) 36)).alloc (.cells (mcells m L) 36)) 36 Tryz.zeroCells36
    simpa using this
  have ch : Chg (fun _ => False) w (((w.alloc (.cells (mcells n K) 36)).alloc (.cells (mcells m L) 36)).alloc (.cells Tryz.zeroCells36 36)) := (((Chg.refl _ w).alloc _).alloc _).alloc _
  have hz : (((w.alloc (.cells (mcells n K) 36)).alloc (.cells (mcells m L) 36)).alloc (.cells Tryz.zeroCells36 36)).heap.size = w.heap.size + 1 + 1 + 1 := by simp
  go_enter Tryz.func63, Tryz.ntmps63
  go_upto_region 1 with fail
  generalize (((w.alloc (.cells (mcells n K) 36)).alloc (.cells (mcells m L) 36)).alloc (.cells Tryz.zeroCells36 36)) = W at *
  have hmf := b1.mf hm
  have u1 := hmf.to
  have u0 := (b0.mf hn).to
  have f0 := Blk.frozen b0 4
  have b3 : IsM (W.setCell ⟨w.heap.size, 4, none⟩ (S m.to)) w.heap.size { n with «to» := m.to } K := IsM.of (Blk.set_ b0 4 (S m.to)) (set_to n K m.to)
  have c3 : Chg (fun k => k = w.heap.size) W (W.setCell ⟨w.heap.size, 4, none⟩ (S m.to)) := (Chg.refl (fun k => k = w.heap.size) W).setCell (.inl rfl) _
  have hd3 : Dg { n with «to» := m.to } := ⟨hn.h, hn.e⟩
  have b4 : Blk (W.setCell ⟨w.heap.size, 4, none⟩ (S m.to)) (w.heap.size + 1 + 1) 36 Tryz.zeroCells36 := b2.chg c3 (by omega)
  have hlm := ldM hd3 b3
  have hsm := stM b4 (by rw [zero_msg]; exact mc_len _ _ (only_dg 0 0)) hd3 (show Slc (K) from hK)
  have hc4 : Chg (fun _ => False) w ((W.setCell ⟨w.heap.size, 4, none⟩ (S m.to)).setRow (w.heap.size + 1 + 1) (mcells { n with «to» := m.to } K)) := (ch.andThen c3 (fun k hk e => by omega)).setRow (.inr (by omega)) _
  have B4 := Lib.hid (Blk.setRow b4 (mcells { n with «to» := m.to } K))
  have HC := Lib.hid hc4
  have Hd3 := Lib.hid hd3
  clear b3 c3 b4 hc4 hd3 hmf b0 b1 b2 ch hn hm hK hl hz
  go_wp2_with fail
  refine bodyPost_ret (results_cell_row rfl _ _ (w.heap.size + 1 + 1) 36 (mcells { n with «to» := m.to } K) (0, 0) _ rfl B4.out Tryz.underlying36 rfl (by rw [mc_len _ _ Hd3.out]; exact info_msg)) rfl ?_
  exact ⟨rfl, HC.out⟩
set_option maxHeartbeats 4000000 in
set_option maxRecDepth 100000 in
theorem rwith_V (n m : M) (K L : Ls) (w : World) (hn : Dg n) (hm : Dg m) (hK : Slc K) (hl : IsL w m L) :
    Calls Tryz.prog 63 #[.agg (mcells n K), .agg (mcells m L), .int .u8 86] w fun e w' => e = .returned (.agg (mcells (Wm.put n m .V) (putL K L .V))) ∧ Chg (fun _ => False) w w' := by
  have b0 : IsM (((w.alloc (.cells (mcells n K) 36)).alloc (.cells (mcells m L) 36)).alloc (.cells Tryz.zeroCells36 36)) w.heap.size n K := ((Blk.new w 36 (mcells n K)).alloc _).alloc _
  have b1 : IsM (((w.alloc (.cells (mcells n K) 36)).alloc (.cells (mcells m L) 36)).alloc (.cells Tryz.zeroCells36 36)) (w.heap.size + 1) m L := by
    have := (Blk.new (w.alloc (.cells (mcells n K) 36)) 36 (mcells m L)).alloc (.cells Tryz.zeroCells36 36)
    simpa [IsM] using this
  have b2 : Blk (((w.alloc (.cells (mcells n K) 36)).alloc (.cells (mcells m L) 36)).alloc (.cells Tryz.zeroCells36 36)) (w.heap.size + 1 + 1) 36 Tryz.zeroCells36 := by
    have := Blk.new ((w.alloc (.cells (mcells n K) 36)).alloc (.cells (mcells m L) 36)) 36 Tryz.zeroCells36
    simpa using this
  have ch : Chg (fun _ => False) w (((w.alloc (.cells (mcells n K) 36)).alloc (.cells (mcells m L) 36)).alloc (.cells Tryz.zeroCells36 36)) := (((Chg.refl _ w).alloc _).alloc _).alloc _
  have hz : (((w.alloc (.cells (mcells n K) 36)).alloc (.cells (mcells m L) 36)).alloc (.cells Tryz.zeroCells36 36)).heap.size = w.heap.size + 1 + 1 + 1 := by simp
  go_enter Tryz.func63, Tryz.ntmps63
  go_upto_region 1 with fail
  generalize (((w.alloc (.cells (mcells n K) 36)).alloc (.cells (mcells m L) 36)).alloc (.cells Tryz.zeroCells36 36)) = W at *
  have hmf := b1.mf hm
  have u1 := hmf.val
  have u0 := (b0.mf hn).val
  have f0 := Blk.frozen b0 5
  have b3 : IsM (W.setCell ⟨w.heap.size, 5, none⟩ (S m.val)) w.heap.size { n with val := m.val } K := IsM.of (Blk.set_ b0 5 (S m.val)) (set_val n K m.val)
  have c3 : Chg (fun k => k = w.heap.size) W (W.setCell ⟨w.heap.size, 5, none⟩ (S m.val)) := (Chg.refl (fun k => k = w.heap.size) W).setCell (.inl rfl) _
  have hd3 : Dg { n with val := m.val } := ⟨hn.h, hn.e⟩
  have b4 : Blk (W.setCell ⟨w.heap.size, 5, none⟩ (S m.val)) (w.heap.size + 1 + 1) 36 Tryz.zeroCells36 := b2.chg c3 (by omega)
  have hlm := ldM hd3 b3
  have hsm := stM b4 (by rw [zero_msg]; exact mc_len _ _ (only_dg 0 0)) hd3 (show Slc (K) from hK)
  have hc4 : Chg (fun _ => False) w ((W.setCell ⟨w.heap.size, 5, none⟩ (S m.val)).setRow (w.heap.size + 1 + 1) (mcells { n with val := m.val } K)) := (ch.andThen c3 (fun k hk e => by omega)).setRow (.inr (by omega)) _
  have B4 := Lib.hid (Blk.setRow b4 (mcells { n with val := m.val } K))
  have HC := Lib.hid hc4
  have Hd3 := Lib.hid hd3
  clear b3 c3 b4 hc4 hd3 hmf b0 b1 b2 ch hn hm hK hl hz
  go_wp2_with fail
  refine bodyPost_ret (results_cell_row rfl _ _ (w.heap.size + 1 + 1) 36 (mcells { n with val := m.val } K) (0, 0) _ rfl B4.out Tryz.underlying36 rfl (by rw [mc_len _ _ Hd3.out]; exact info_msg)) rfl ?_
  exact ⟨rfl, HC.out⟩
set_option maxHeartbeats 4000000 in
set_option maxRecDepth 100000 in
theorem rwith_L (n m : M) (K L : Ls) (w : World) (hn : Dg n) (hm : Dg m) (hK : Slc K) (hl : IsL w m L) :
    Calls Tryz.prog 63 #[.agg (mcells n K), .agg (mcells m L), .int .u8 76] w fun e w' => e = .returned (.agg (mcells (Wm.put n m .L) (putL K L .L))) ∧ Chg (fun _ => False) w w' := by
  have b0 : IsM (((w.alloc (.cells (mcells n K) 36)).alloc (.cells (mcells m L) 36)).alloc (.cells Tryz.zeroCells36 36)) w.heap.size n K := ((Blk.new w 36 (mcells n K)).alloc _).alloc _
  have b1 : IsM (((w.alloc (.cells (mcells n K) 36)).alloc (.cells (mcells m L) 36)).alloc (.cells Tryz.zeroCells36 36)) (w.heap.size + 1) m L := by
    have := (Blk.new (w.alloc (.cells (mcells n K) 36)) 36 (mcells m L)).alloc (.cells Tryz.zeroCells36 36)
    simpa [IsM] using this
  have b2 : Blk (((w.alloc (.cells (mcells n K) 36)).alloc (.cells (mcells m L) 36)).alloc (.cells Tryz.zeroCells36 36)) (w.heap.size + 1 + 1) 36 Tryz.zeroCells36 := by
    have := Blk.new ((w.alloc (.cells (mcells n K) 36)).alloc (.cells (mcells m L) 36)) 36 Tryz.zeroCells36
    simpa using this
  have ch : Chg (fun _ => False) w (((w.alloc (.cells (mcells n K) 36)).alloc (.cells (mcells m L) 36)).alloc (.cells Tryz.zeroCells36 36)) := (((Chg.refl _ w).alloc _).alloc _).alloc _
  have hz : (((w.alloc (.cells (mcells n K) 36)).alloc (.cells (mcells m L) 36)).alloc (.cells Tryz.zeroCells36 36)).heap.size = w.heap.size + 1 + 1 + 1 := by simp
  go_enter Tryz.func63, Tryz.ntmps63
  go_upto_region 1 with fail
  generalize (((w.alloc (.cells (mcells n K) 36)).alloc (.cells (mcells m L) 36)).alloc (.cells Tryz.zeroCells36 36)) = W at *
  have hmf := b1.mf hm
  have u1 := hmf.limit
  have u0 := (b0.mf hn).limit
  have f0 := Blk.frozen b0 6
  have b3 : IsM (W.setCell ⟨w.heap.size, 6, none⟩ (.int .i64 m.limit)) w.heap.size { n with limit := m.limit } K := IsM.of (Blk.set_ b0 6 (.int .i64 m.limit)) (set_limit n K m.limit)
  have c3 : Chg (fun k => k = w.heap.size) W (W.setCell ⟨w.heap.size, 6, none⟩ (.int .i64 m.limit)) := (Chg.refl (fun k => k = w.heap.size) W).setCell (.inl rfl) _
  have hd3 : Dg { n with limit := m.limit } := ⟨hn.h, hn.e⟩
  have b4 : Blk (W.setCell ⟨w.heap.size, 6, none⟩ (.int .i64 m.limit)) (w.heap.size + 1 + 1) 36 Tryz.zeroCells36 := b2.chg c3 (by omega)
  have hlm := ldM hd3 b3
  have hsm := stM b4 (by rw [zero_msg]; exact mc_len _ _ (only_dg 0 0)) hd3 (show Slc (K) from hK)
  have hc4 : Chg (fun _ => False) w ((W.setCell ⟨w.heap.size, 6, none⟩ (.int .i64 m.limit)).setRow (w.heap.size + 1 + 1) (mcells { n with limit := m.limit } K)) := (ch.andThen c3 (fun k hk e => by omega)).setRow (.inr (by omega)) _
  have B4 := Lib.hid (Blk.setRow b4 (mcells { n with limit := m.limit } K))
  have HC := Lib.hid hc4
  have Hd3 := Lib.hid hd3
  clear b3 c3 b4 hc4 hd3 hmf b0 b1 b2 ch hn hm hK hl hz
  go_wp2_with fail
  refine bodyPost_ret (results_cell_row rfl _ _ (w.heap.size + 1 + 1) 36 (mcells { n with limit := m.limit } K) (0, 0) _ rfl B4.out Tryz.underlying36 rfl (by rw [mc_len _ _ Hd3.out]; exact info_msg)) rfl ?_
  exact ⟨rfl, HC.out⟩
set_option maxHeartbeats 4000000 in
set_option maxRecDepth 100000 in
theorem rwith_F (n m : M) (K L : Ls) (w : World) (hn : Dg n) (hm : Dg m) (hK : Slc K) (hl : IsL w m L) :
    Calls Tryz.prog 63 #[.agg (mcells n K), .agg (mcells m L), .int .u8 70] w fun e w' => e = .returned (.agg (mcells (Wm.put n m .F) (putL K L .F))) ∧ Chg (fun _ => False) w w' := by
  have b0 : IsM (((w.alloc (.cells (mcells n K) 36)).alloc (.cells (mcells m L) 36)).alloc (.cells Tryz.zeroCells36 36)) w.heap.size n K := ((Blk.new w 36 (mcells n K)).alloc _).alloc _
  have b1 : IsM (((w.alloc (.cells (mcells n K) 36)).alloc (.cells (mcells m L) 36)).alloc (.cells Tryz.zeroCells36 36)) (w.heap.size + 1) m L := by
    have := (Blk.new (w.alloc (.cells (mcells n K) 36)) 36 (mcells m L)).alloc (.cells Tryz.zeroCells36 36)
    simpa [IsM] using this
  have b2 : Blk (((w.alloc (.cells (mcells n K) 36)).alloc (.cells (mcells m L) 36)).alloc (.cells Tryz.zeroCells36 36)) (w.heap.size + 1 + 1) 36 Tryz.zeroCells36 := by
    have := Blk.new ((w.alloc (.cells (mcells n K) 36)).alloc (.cells (mcells m L) 36)) 36 Tryz.zeroCells36
    simpa using this
  have ch : Chg (fun _ => False) w (((w.alloc (.cells (mcells n K) 36)).alloc (.cells (mcells m L) 36)).alloc (.cells Tryz.zeroCells36 36)) := (((Chg.refl _ w).alloc _).alloc _).alloc _
  have hz : (((w.alloc (.cells (mcells n K) 36)).alloc (.cells (mcells m L) 36)).alloc (.cells Tryz.zeroCells36 36)).heap.size = w.heap.size + 1 + 1 + 1 := by simp
  go_enter Tryz.func63, Tryz.ntmps63
  go_upto_region 1 with fail
  generalize (((w.alloc (.cells (mcells n K) 36)).alloc (.cells (mcells m L) 36)).alloc (.cells Tryz.zeroCells36 36)) = W at *
  have hmf := b1.mf hm
  have u1 := hmf.frm
  have u0 := (b0.mf hn).frm
  have f0 := Blk.frozen b0 7
  have b3 : IsM (W.setCell ⟨w.heap.size, 7, none⟩ (.int .u64 m.frm)) w.heap.size { n with frm := m.frm } K := IsM.of (Blk.set_ b0 7 (.int .u64 m.frm)) (set_frm n K m.frm)
  have c3 : Chg (fun k => k = w.heap.size) W (W.setCell ⟨w.heap.size, 7, none⟩ (.int .u64 m.frm)) := (Chg.refl (fun k => k = w.heap.size) W).setCell (.inl rfl) _
  have hd3 : Dg { n with frm := m.frm } := ⟨hn.h, hn.e⟩
  have b4 : Blk (W.setCell ⟨w.heap.size, 7, none⟩ (.int .u64 m.frm)) (w.heap.size + 1 + 1) 36 Tryz.zeroCells36 := b2.chg c3 (by omega)
  have hlm := ldM hd3 b3
  have hsm := stM b4 (by rw [zero_msg]; exact mc_len _ _ (only_dg 0 0)) hd3 (show Slc (K) from hK)
  have hc4 : Chg (fun _ => False) w ((W.setCell ⟨w.heap.size, 7, none⟩ (.int .u64 m.frm)).setRow (w.heap.size + 1 + 1) (mcells { n with frm := m.frm } K)) := (ch.andThen c3 (fun k hk e => by omega)).setRow (.inr (by omega)) _
  have B4 := Lib.hid (Blk.setRow b4 (mcells { n with frm := m.frm } K))
  have HC := Lib.hid hc4
  have Hd3 := Lib.hid hd3
  clear b3 c3 b4 hc4 hd3 hmf b0 b1 b2 ch hn hm hK hl hz
  go_wp2_with fail
  refine bodyPost_ret (results_cell_row rfl _ _ (w.heap.size + 1 + 1) 36 (mcells { n with frm := m.frm } K) (0, 0) _ rfl B4.out Tryz.underlying36 rfl (by rw [mc_len _ _ Hd3.out]; exact info_msg)) rfl ?_
  exact ⟨rfl, HC.out⟩
set_option maxHeartbeats 4000000 in
set_option maxRecDepth 100000 in
theorem rwith_S (n m : M) (K L : Ls) (w : World) (hn : Dg n) (hm : Dg m) (hK : Slc K) (hl : IsL w m L) :
    Calls Tryz.prog 63 #[.agg (mcells n K), .agg (mcells m L), .int .u8 83] w fun e w' => e = .returned (.agg (mcells (Wm.put n m .S) (putL K L .S))) ∧ Chg (fun _ => False) w w' := by
  have b0 : IsM (((w.alloc (.cells (mcells n K) 36)).alloc (.cells (mcells m L) 36)).alloc (.cells Tryz.zeroCells36 36)) w.heap.size n K := ((Blk.new w 36 (mcells n K)).alloc _).alloc _
  have b1 : IsM (((w.alloc (.cells (mcells n K) 36)).alloc (.cells (mcells m L) 36)).alloc (.cells Tryz.zeroCells36 36)) (w.heap.size + 1) m L := by
    have := (Blk.new (w.alloc (.cells (mcells n K) 36)) 36 (mcells m L)).alloc (.cells Tryz.zeroCells36 36)
    simpa [IsM] using this
  have b2 : Blk (((w.alloc (.cells (mcells n K) 36)).alloc (.cells (mcells m L) 36)).alloc (.cells Tryz.zeroCells36 36)) (w.heap.size + 1 + 1) 36 Tryz.zeroCells36 := by
    have := Blk.new ((w.alloc (.cells (mcells n K) 36)).alloc (.cells (mcells m L) 36)) 36 Tryz.zeroCells36
    simpa using this
  have ch : Chg (fun _ => False) w (((w.alloc (.cells (mcells n K) 36)).alloc (.cells (mcells m L) 36)).alloc (.cells Tryz.zeroCells36 36)) := (((Chg.refl _ w).alloc _).alloc _).alloc _
  have hz : (((w.alloc (.cells (mcells n K) 36)).alloc (.cells (mcells m L) 36)).alloc (.cells Tryz.zeroCells36 36)).heap.size = w.heap.size + 1 + 1 + 1 := by simp
  go_enter Tryz.func63, Tryz.ntmps63
  go_upto_region 1 with fail
  generalize (((w.alloc (.cells (mcells n K) 36)).alloc (.cells (mcells m L) 36)).alloc (.cells Tryz.zeroCells36 36)) = W at *
  have hmf := b1.mf hm
  have u1 := hmf.size
  have u0 := (b0.mf hn).size
  have f0 := Blk.frozen b0 8
  have b3 : IsM (W.setCell ⟨w.heap.size, 8, none⟩ (.int .u64 m.size)) w.heap.size { n with size := m.size } K := IsM.of (Blk.set_ b0 8 (.int .u64 m.size)) (set_size n K m.size)
  have c3 : Chg (fun k => k = w.heap.size) W (W.setCell ⟨w.heap.size, 8, none⟩ (.int .u64 m.size)) := (Chg.refl (fun k => k = w.heap.size) W).setCell (.inl rfl) _
  have hd3 : Dg { n with size := m.size } := ⟨hn.h, hn.e⟩
  have b4 : Blk (W.setCell ⟨w.heap.size, 8, none⟩ (.int .u64 m.size)) (w.heap.size + 1 + 1) 36 Tryz.zeroCells36 := b2.chg c3 (by omega)
  have hlm := ldM hd3 b3
  have hsm := stM b4 (by rw [zero_msg]; exact mc_len _ _ (only_dg 0 0)) hd3 (show Slc (K) from hK)
  have hc4 : Chg (fun _ => False) w ((W.setCell ⟨w.heap.size, 8, none⟩ (.int .u64 m.size)).setRow (w.heap.size + 1 + 1) (mcells { n with size := m.size } K)) := (ch.andThen c3 (fun k hk e => by omega)).setRow (.inr (by omega)) _
  have B4 := Lib.hid (Blk.setRow b4 (mcells { n with size := m.size } K))
  have HC := Lib.hid hc4
  have Hd3 := Lib.hid hd3
  clear b3 c3 b4 hc4 hd3 hmf b0 b1 b2 ch hn hm hK hl hz
  go_wp2_with fail
  refine bodyPost_ret (results_cell_row rfl _ _ (w.heap.size + 1 + 1) 36 (mcells { n with size := m.size } K) (0, 0) _ rfl B4.out Tryz.underlying36 rfl (by rw [mc_len _ _ Hd3.out]; exact info_msg)) rfl ?_
  exact ⟨rfl, HC.out⟩
set_option maxHeartbeats 4000000 in
set_option maxRecDepth 100000 in
theorem rwith_f (n m : M) (K L : Ls) (w : World) (hn : Dg n) (hm : Dg m) (hK : Slc K) (hl : IsL w m L) :
    Calls Tryz.prog 63 #[.agg (mcells n K), .agg (mcells m L), .int .u8 102] w fun e w' => e = .returned (.agg (mcells (Wm.put n m .f) (putL K L .f))) ∧ Chg (fun _ => False) w w' := by
  have b0 : IsM (((w.alloc (.cells (mcells n K) 36)).alloc (.cells (mcells m L) 36)).alloc (.cells Tryz.zeroCells36 36)) w.heap.size n K := ((Blk.new w 36 (mcells n K)).alloc _).alloc _
  have b1 : IsM (((w.alloc (.cells (mcells n K) 36)).alloc (.cells (mcells m L) 36)).alloc (.cells Tryz.zeroCells36 36)) (w.heap.size + 1) m L := by
    have := (Blk.new (w.alloc (.cells (mcells n K) 36)) 36 (mcells m L)).alloc (.cells Tryz.zeroCells36 36)
    simpa [IsM] using this
  have b2 : Blk (((w.alloc (.cells (mcells n K) 36)).alloc (.cells (mcells m L) 36)).alloc (.cells Tryz.zeroCells36 36)) (w.heap.size + 1 + 1) 36 Tryz.zeroCells36 := by
    have := Blk.new ((w.alloc (.cells (mcells n K) 36)).alloc (.cells (mcells m L) 36)) 36 Tryz.zeroCells36
    simpa using this
  have ch : Chg (fun _ => False) w (((w.alloc (.cells (mcells n K) 36)).alloc (.cells (mcells m L) 36)).alloc (.cells Tryz.zeroCells36 36)) := (((Chg.refl _ w).alloc _).alloc _).alloc _
  have hz : (((w.alloc (.cells (mcells n K) 36)).alloc (.cells (mcells m L) 36)).alloc (.cells Tryz.zeroCells36 36)).heap.size = w.heap.size + 1 + 1 + 1 := by simp
  go_enter Tryz.func63, Tryz.ntmps63
  go_upto_region 1 with fail
  generalize (((w.alloc (.cells (mcells n K) 36)).alloc (.cells (mcells m L) 36)).alloc (.cells Tryz.zeroCells36 36)) = W at *
  have hmf := b1.mf hm
  have u1 := hmf.found
  have u0 := (b0.mf hn).found
  have f0 := Blk.frozen b0 9
  have b3 : IsM (W.setCell ⟨w.heap.size, 9, none⟩ (.bool m.found)) w.heap.size { n with found := m.found } K := IsM.of (Blk.set_ b0 9 (.bool m.found)) (set_found n K m.found)
  have c3 : Chg (fun k => k = w.heap.size) W (W.setCell ⟨w.heap.size, 9, none⟩ (.bool m.found)) := (Chg.refl (fun k => k = w.heap.size) W).setCell (.inl rfl) _
  have hd3 : Dg { n with found := m.found } := ⟨hn.h, hn.e⟩
  have b4 : Blk (W.setCell ⟨w.heap.size, 9, none⟩ (.bool m.found)) (w.heap.size + 1 + 1) 36 Tryz.zeroCells36 := b2.chg c3 (by omega)
  have hlm := ldM hd3 b3
  have hsm := stM b4 (by rw [zero_msg]; exact mc_len _ _ (only_dg 0 0)) hd3 (show Slc (K) from hK)
  have hc4 : Chg (fun _ => False) w ((W.setCell ⟨w.heap.size, 9, none⟩ (.bool m.found)).setRow (w.heap.size + 1 + 1) (mcells { n with found := m.found } K)) := (ch.andThen c3 (fun k hk e => by omega)).setRow (.inr (by omega)) _
  have B4 := Lib.hid (Blk.setRow b4 (mcells { n with found := m.found } K))
  have HC := Lib.hid hc4
  have Hd3 := Lib.hid hd3
  clear b3 c3 b4 hc4 hd3 hmf b0 b1 b2 ch hn hm hK hl hz
  go_wp2_with fail
  refine bodyPost_ret (results_cell_row rfl _ _ (w.heap.size + 1 + 1) 36 (mcells { n with found := m.found } K) (0, 0) _ rfl B4.out Tryz.underlying36 rfl (by rw [mc_len _ _ Hd3.out]; exact info_msg)) rfl ?_
  exact ⟨rfl, HC.out⟩
set_option maxHeartbeats 4000000 in
set_option maxRecDepth 100000 in
theorem rwith_m (n m : M) (K L : Ls) (w : World) (hn : Dg n) (hm : Dg m) (hK : Slc K) (hl : IsL w m L) :
    Calls Tryz.prog 63 #[.agg (mcells n K), .agg (mcells m L), .int .u8 109] w fun e w' => e = .returned (.agg (mcells (Wm.put n m .m) (putL K L .m))) ∧ Chg (fun _ => False) w w' := by
  have b0 : IsM (((w.alloc (.cells (mcells n K) 36)).alloc (.cells (mcells m L) 36)).alloc (.cells Tryz.zeroCells36 36)) w.heap.size n K := ((Blk.new w 36 (mcells n K)).alloc _).alloc _
  have b1 : IsM (((w.alloc (.cells (mcells n K) 36)).alloc (.cells (mcells m L) 36)).alloc (.cells Tryz.zeroCells36 36)) (w.heap.size + 1) m L := by
    have := (Blk.new (w.alloc (.cells (mcells n K) 36)) 36 (mcells m L)).alloc (.cells Tryz.zeroCells36 36)
    simpa [IsM] using this
  have b2 : Blk (((w.alloc (.cells (mcells n K) 36)).alloc (.cells (mcells m L) 36)).alloc (.cells Tryz.zeroCells36 36)) (w.heap.size + 1 + 1) 36 Tryz.zeroCells36 := by
    have := Blk.new ((w.alloc (.cells (mcells n K) 36)).alloc (.cells (mcells m L) 36)) 36 Tryz.zeroCells36
    simpa using this
  have ch : Chg (fun _ => False) w (((w.alloc (.cells (mcells n K) 36)).alloc (.cells (mcells m L) 36)).alloc (.cells Tryz.zeroCells36 36)) := (((Chg.refl _ w).alloc _).alloc _).alloc _
  have hz : (((w.alloc (.cells (mcells n K) 36)).alloc (.cells (mcells m L) 36)).alloc (.cells Tryz.zeroCells36 36)).heap.size = w.heap.size + 1 + 1 + 1 := by simp
  go_enter Tryz.func63, Tryz.ntmps63
  go_upto_region 1 with fail
  generalize (((w.alloc (.cells (mcells n K) 36)).alloc (.cells (mcells m L) 36)).alloc (.cells Tryz.zeroCells36 36)) = W at *
  have hmf := b1.mf hm
  have u1 := hmf.more
  have u0 := (b0.mf hn).more
  have f0 := Blk.frozen b0 10
  have b3 : IsM (W.setCell ⟨w.heap.size, 10, none⟩ (.bool m.more)) w.heap.size { n with more := m.more } K := IsM.of (Blk.set_ b0 10 (.bool m.more)) (set_more n K m.more)
  have c3 : Chg (fun k => k = w.heap.size) W (W.setCell ⟨w.heap.size, 10, none⟩ (.bool m.more)) := (Chg.refl (fun k => k = w.heap.size) W).setCell (.inl rfl) _
  have hd3 : Dg { n with more := m.more } := ⟨hn.h, hn.e⟩
  have b4 : Blk (W.setCell ⟨w.heap.size, 10, none⟩ (.bool m.more)) (w.heap.size + 1 + 1) 36 Tryz.zeroCells36 := b2.chg c3 (by omega)
  have hlm := ldM hd3 b3
  have hsm := stM b4 (by rw [zero_msg]; exact mc_len _ _ (only_dg 0 0)) hd3 (show Slc (K) from hK)
  have hc4 : Chg (fun _ => False) w ((W.setCell ⟨w.heap.size, 10, none⟩ (.bool m.more)).setRow (w.heap.size + 1 + 1) (mcells { n with more := m.more } K)) := (ch.andThen c3 (fun k hk e => by omega)).setRow (.inr (by omega)) _
  have B4 := Lib.hid (Blk.setRow b4 (mcells { n with more := m.more } K))
  have HC := Lib.hid hc4
  have Hd3 := Lib.hid hd3
  clear b3 c3 b4 hc4 hd3 hmf b0 b1 b2 ch hn hm hK hl hz
  go_wp2_with fail
  refine bodyPost_ret (results_cell_row rfl _ _ (w.heap.size + 1 + 1) 36 (mcells { n with more := m.more } K) (0, 0) _ rfl B4.out Tryz.underlying36 rfl (by rw [mc_len _ _ Hd3.out]; exact info_msg)) rfl ?_
  exact ⟨rfl, HC.out⟩
set_option maxHeartbeats 4000000 in
set_option maxRecDepth 100000 in
theorem rwith_C (n m : M) (K L : Ls) (w : World) (hn : Dg n) (hm : Dg m) (hK : Slc K) (hl : IsL w m L) :
    Calls Tryz.prog 63 #[.agg (mcells n K), .agg (mcells m L), .int .u8 67] w fun e w' => e = .returned (.agg (mcells (Wm.put n m .C) (putL K L .C))) ∧ Chg (fun _ => False) w w' := by
  have b0 : IsM (((w.alloc (.cells (mcells n K) 36)).alloc (.cells (mcells m L) 36)).alloc (.cells Tryz.zeroCells36 36)) w.heap.size n K := ((Blk.new w 36 (mcells n K)).alloc _).alloc _
  have b1 : IsM (((w.alloc (.cells (mcells n K) 36)).alloc (.cells (mcells m L) 36)).alloc (.cells Tryz.zeroCells36 36)) (w.heap.size + 1) m L := by
    have := (Blk.new (w.alloc (.cells (mcells n K) 36)) 36 (mcells m L)).alloc (.cells Tryz.zeroCells36 36)
    simpa [IsM] using this
  have b2 : Blk (((w.alloc (.cells (mcells n K) 36)).alloc (.cells (mcells m L) 36)).alloc (.cells Tryz.zeroCells36 36)) (w.heap.size + 1 + 1) 36 Tryz.zeroCells36 := by
    have := Blk.new ((w.alloc (.cells (mcells n K) 36)).alloc (.cells (mcells m L) 36)) 36 Tryz.zeroCells36
    simpa using this
  have ch : Chg (fun _ => False) w (((w.alloc (.cells (mcells n K) 36)).alloc (.cells (mcells m L) 36)).alloc (.cells Tryz.zeroCells36 36)) := (((Chg.refl _ w).alloc _).alloc _).alloc _
  have hz : (((w.alloc (.cells (mcells n K) 36)).alloc (.cells (mcells m L) 36)).alloc (.cells Tryz.zeroCells36 36)).heap.size = w.heap.size + 1 + 1 + 1 := by simp
  go_enter Tryz.func63, Tryz.ntmps63
  go_upto_region 1 with fail
  generalize (((w.alloc (.cells (mcells n K) 36)).alloc (.cells (mcells m L) 36)).alloc (.cells Tryz.zeroCells36 36)) = W at *
  have hmf := b1.mf hm
  have u1 := hmf.code
  have u0 := (b0.mf hn).code
  have f0 := Blk.frozen b0 2
  have b3 : IsM (W.setCell ⟨w.heap.size, 2, none⟩ (.int .i64 m.code)) w.heap.size { n with code := m.code } K := IsM.of (Blk.set_ b0 2 (.int .i64 m.code)) (set_code n K m.code)
  have c3 : Chg (fun k => k = w.heap.size) W (W.setCell ⟨w.heap.size, 2, none⟩ (.int .i64 m.code)) := (Chg.refl (fun k => k = w.heap.size) W).setCell (.inl rfl) _
  have hd3 : Dg { n with code := m.code } := ⟨hn.h, hn.e⟩
  have b4 : Blk (W.setCell ⟨w.heap.size, 2, none⟩ (.int .i64 m.code)) (w.heap.size + 1 + 1) 36 Tryz.zeroCells36 := b2.chg c3 (by omega)
  have hlm := ldM hd3 b3
  have hsm := stM b4 (by rw [zero_msg]; exact mc_len _ _ (only_dg 0 0)) hd3 (show Slc (K) from hK)
  have hc4 : Chg (fun _ => False) w ((W.setCell ⟨w.heap.size, 2, none⟩ (.int .i64 m.code)).setRow (w.heap.size + 1 + 1) (mcells { n with code := m.code } K)) := (ch.andThen c3 (fun k hk e => by omega)).setRow (.inr (by omega)) _
  have B4 := Lib.hid (Blk.setRow b4 (mcells { n with code := m.code } K))
  have HC := Lib.hid hc4
  have Hd3 := Lib.hid hd3
  clear b3 c3 b4 hc4 hd3 hmf b0 b1 b2 ch hn hm hK hl hz
  go_wp2_with fail
  refine bodyPost_ret (results_cell_row rfl _ _ (w.heap.size + 1 + 1) 36 (mcells { n with code := m.code } K) (0, 0) _ rfl B4.out Tryz.underlying36 rfl (by rw [mc_len _ _ Hd3.out]; exact info_msg)) rfl ?_
  exact ⟨rfl, HC.out⟩
set_option maxHeartbeats 4000000 in
set_option maxRecDepth 100000 in
theorem rwith_H (n m : M) (K L : Ls) (w : World) (hn : Dg n) (hm : Dg m) (hK : Slc K) (hl : IsL w m L) :
    Calls Tryz.prog 63 #[.agg (mcells n K), .agg (mcells m L), .int .u8 72] w fun e w' => e = .returned (.agg (mcells (Wm.put n m .H) (putL K L .H))) ∧ Chg (fun _ => False) w w' := by
  have b0 : IsM (((w.alloc (.cells (mcells n K) 36)).alloc (.cells (mcells m L) 36)).alloc (.cells Tryz.zeroCells36 36)) w.heap.size n K := ((Blk.new w 36 (mcells n K)).alloc _).alloc _
  have b1 : IsM (((w.alloc (.cells (mcells n K) 36)).alloc (.cells (mcells m L) 36)).alloc (.cells Tryz.zeroCells36 36)) (w.heap.size + 1) m L := by
    have := (Blk.new (w.alloc (.cells (mcells n K) 36)) 36 (mcells m L)).alloc (.cells Tryz.zeroCells36 36)
    simpa [IsM] using this
  have b2 : Blk (((w.alloc (.cells (mcells n K) 36)).alloc (.cells (mcells m L) 36)).alloc (.cells Tryz.zeroCells36 36)) (w.heap.size + 1 + 1) 36 Tryz.zeroCells36 := by
    have := Blk.new ((w.alloc (.cells (mcells n K) 36)).alloc (.cells (mcells m L) 36)) 36 Tryz.zeroCells36
    simpa using this
  have ch : Chg (fun _ => False) w (((w.alloc (.cells (mcells n K) 36)).alloc (.cells (mcells m L) 36)).alloc (.cells Tryz.zeroCells36 36)) := (((Chg.refl _ w).alloc _).alloc _).alloc _
  have hz : (((w.alloc (.cells (mcells n K) 36)).alloc (.cells (mcells m L) 36)).alloc (.cells Tryz.zeroCells36 36)).heap.size = w.heap.size + 1 + 1 + 1 := by simp
  go_enter Tryz.func63, Tryz.ntmps63
  go_upto_region 1 with fail
  generalize (((w.alloc (.cells (mcells n K) 36)).alloc (.cells (mcells m L) 36)).alloc (.cells Tryz.zeroCells36 36)) = W at *
  have hmf := b1.mf hm
  have hld := ld_hd W (w.heap.size + 1) m L hm hmf
  have hst := st_hd W w.heap.size 36 (mcells n K) m.hsize m.hlog hm.h b0 (mc_len n K hn)
  rw [over_head n K hn m.hlog hm.h] at hst
  have b3 : IsM (W.setRow w.heap.size (mcells { n with hsize := m.hsize, hlog := m.hlog } K)) w.heap.size { n with hsize := m.hsize, hlog := m.hlog } K := Blk.setRow b0 _
  have c3 : Chg (fun k => k = w.heap.size) W (W.setRow w.heap.size (mcells { n with hsize := m.hsize, hlog := m.hlog } K)) := (Chg.refl (fun k => k = w.heap.size) W).setRow (.inl rfl) _
  have hd3 : Dg { n with hsize := m.hsize, hlog := m.hlog } := ⟨hm.h, hn.e⟩
  have b4 : Blk (W.setRow w.heap.size (mcells { n with hsize := m.hsize, hlog := m.hlog } K)) (w.heap.size + 1 + 1) 36 Tryz.zeroCells36 := b2.chg c3 (by omega)
  have hlm := ldM hd3 b3
  have hsm := stM b4 (by rw [zero_msg]; exact mc_len _ _ (only_dg 0 0)) hd3 (show Slc (K) from hK)
  have hc4 : Chg (fun _ => False) w ((W.setRow w.heap.size (mcells { n with hsize := m.hsize, hlog := m.hlog } K)).setRow (w.heap.size + 1 + 1) (mcells { n with hsize := m.hsize, hlog := m.hlog } K)) := (ch.andThen c3 (fun k hk e => by omega)).setRow (.inr (by omega)) _
  have B4 := Lib.hid (Blk.setRow b4 (mcells { n with hsize := m.hsize, hlog := m.hlog } K))
  have HC := Lib.hid hc4
  have Hd3 := Lib.hid hd3
  clear b3 c3 b4 hc4 hd3 hmf b0 b1 b2 ch hn hm hK hl hz
  go_wp2_with fail
  refine bodyPost_ret (results_cell_row rfl _ _ (w.heap.size + 1 + 1) 36 (mcells { n with hsize := m.hsize, hlog := m.hlog } K) (0, 0) _ rfl B4.out Tryz.underlying36 rfl (by rw [mc_len _ _ Hd3.out]; exact info_msg)) rfl ?_
  exact ⟨rfl, HC.out⟩
set_option maxHeartbeats 4000000 in
set_option maxRecDepth 100000 in
theorem rwith_E (n m : M) (K L : Ls) (w : World) (hn : Dg n) (hm : Dg m) (hK : Slc K) (hl : IsL w m L) :
    Calls Tryz.prog 63 #[.agg (mcells n K), .agg (mcells m L), .int .u8 69] w fun e w' => e = .returned (.agg (mcells (Wm.put n m .E) (putL K L .E))) ∧ Chg (fun _ => False) w w' := by
  have b0 : IsM (((w.alloc (.cells (mcells n K) 36)).alloc (.cells (mcells m L) 36)).alloc (.cells Tryz.zeroCells36 36)) w.heap.size n K := ((Blk.new w 36 (mcells n K)).alloc _).alloc _
  have b1 : IsM (((w.alloc (.cells (mcells n K) 36)).alloc (.cells (mcells m L) 36)).alloc (.cells Tryz.zeroCells36 36)) (w.heap.size + 1) m L := by
    have := (Blk.new (w.alloc (.cells (mcells n K) 36)) 36 (mcells m L)).alloc (.cells Tryz.zeroCells36 36)
    simpa [IsM] using this
  have b2 : Blk (((w.alloc (.cells (mcells n K) 36)).alloc (.cells (mcells m L) 36)).alloc (.cells Tryz.zeroCells36 36)) (w.heap.size + 1 + 1) 36 Tryz.zeroCells36 := by
    have := Blk.new ((w.alloc (.cells (mcells n K) 36)).alloc (.cells (mcells m L) 36)) 36 Tryz.zeroCells36
    simpa using this
  have ch : Chg (fun _ => False) w (((w.alloc (.cells (mcells n K) 36)).alloc (.cells (mcells m L) 36)).alloc (.cells Tryz.zeroCells36 36)) := (((Chg.refl _ w).alloc _).alloc _).alloc _
  have hz : (((w.alloc (.cells (mcells n K) 36)).alloc (.cells (mcells m L) 36)).alloc (.cells Tryz.zeroCells36 36)).heap.size = w.heap.size + 1 + 1 + 1 := by simp
  go_enter Tryz.func63, Tryz.ntmps63
  go_upto_region 1 with fail
  generalize (((w.alloc (.cells (mcells n K) 36)).alloc (.cells (mcells m L) 36)).alloc (.cells Tryz.zeroCells36 36)) = W at *
  have hmf := b1.mf hm
  have hld := ld_en W (w.heap.size + 1) m L hm hmf
  have hst := st_en W w.heap.size 36 (mcells n K) m.ever m.esum m.ecnt m.enote hm.e b0 (mc_len n K hn)
  rw [over_entry n K hn _ _ _ _ hm.e] at hst
  have b3 : IsM (W.setRow w.heap.size (mcells { n with ever := m.ever, ecnt := m.ecnt, esum := m.esum, enote := m.enote } K)) w.heap.size { n with ever := m.ever, ecnt := m.ecnt, esum := m.esum, enote := m.enote } K := Blk.setRow b0 _
  have c3 : Chg (fun k => k = w.heap.size) W (W.setRow w.heap.size (mcells { n with ever := m.ever, ecnt := m.ecnt, esum := m.esum, enote := m.enote } K)) := (Chg.refl (fun k => k = w.heap.size) W).setRow (.inl rfl) _
  have hd3 : Dg { n with ever := m.ever, ecnt := m.ecnt, esum := m.esum, enote := m.enote } := ⟨hn.h, hm.e⟩
  have b4 : Blk (W.setRow w.heap.size (mcells { n with ever := m.ever, ecnt := m.ecnt, esum := m.esum, enote := m.enote } K)) (w.heap.size + 1 + 1) 36 Tryz.zeroCells36 := b2.chg c3 (by omega)
  have hlm := ldM hd3 b3
  have hsm := stM b4 (by rw [zero_msg]; exact mc_len _ _ (only_dg 0 0)) hd3 (show Slc (K) from hK)
  have hc4 : Chg (fun _ => False) w ((W.setRow w.heap.size (mcells { n with ever := m.ever, ecnt := m.ecnt, esum := m.esum, enote := m.enote } K)).setRow (w.heap.size + 1 + 1) (mcells { n with ever := m.ever, ecnt := m.ecnt, esum := m.esum, enote := m.enote } K)) := (ch.andThen c3 (fun k hk e => by omega)).setRow (.inr (by omega)) _
  have B4 := Lib.hid (Blk.setRow b4 (mcells { n with ever := m.ever, ecnt := m.ecnt, esum := m.esum, enote := m.enote } K))
  have HC := Lib.hid hc4
  have Hd3 := Lib.hid hd3
  clear b3 c3 b4 hc4 hd3 hmf b0 b1 b2 ch hn hm hK hl hz
  go_wp2_with fail
  refine bodyPost_ret (results_cell_row rfl _ _ (w.heap.size + 1 + 1) 36 (mcells { n with ever := m.ever, ecnt := m.ecnt, esum := m.esum, enote := m.enote } K) (0, 0) _ rfl B4.out Tryz.underlying36 rfl (by rw [mc_len _ _ Hd3.out]; exact info_msg)) rfl ?_
  exact ⟨rfl, HC.out⟩
set_option maxHeartbeats 4000000 in
set_option maxRecDepth 100000 in
theorem rwith_t (n m : M) (K L : Ls) (w : World) (hn : Dg n) (hm : Dg m) (hK : Slc K) (hl : IsL w m L) :
    Calls Tryz.prog 63 #[.agg (mcells n K), .agg (mcells m L), .int .u8 116] w fun e w' => e = .returned (.agg (mcells (Wm.put n m .t) (putL K L .t))) ∧ Chg (fun _ => False) w w' := by
  have b0 : IsM (((w.alloc (.cells (mcells n K) 36)).alloc (.cells (mcells m L) 36)).alloc (.cells Tryz.zeroCells36 36)) w.heap.size n K := ((Blk.new w 36 (mcells n K)).alloc _).alloc _
  have b1 : IsM (((w.alloc (.cells (mcells n K) 36)).alloc (.cells (mcells m L) 36)).alloc (.cells Tryz.zeroCells36 36)) (w.heap.size + 1) m L := by
    have := (Blk.new (w.alloc (.cells (mcells n K) 36)) 36 (mcells m L)).alloc (.cells Tryz.zeroCells36 36)
    simpa [IsM] using this
  have b2 : Blk (((w.alloc (.cells (mcells n K) 36)).alloc (.cells (mcells m L) 36)).alloc (.cells Tryz.zeroCells36 36)) (w.heap.size + 1 + 1) 36 Tryz.zeroCells36 := by
    have := Blk.new ((w.alloc (.cells (mcells n K) 36)).alloc (.cells (mcells m L) 36)) 36 Tryz.zeroCells36
    simpa using this
  have ch : Chg (fun _ => False) w (((w.alloc (.cells (mcells n K) 36)).alloc (.cells (mcells m L) 36)).alloc (.cells Tryz.zeroCells36 36)) := (((Chg.refl _ w).alloc _).alloc _).alloc _
  have hz : (((w.alloc (.cells (mcells n K) 36)).alloc (.cells (mcells m L) 36)).alloc (.cells Tryz.zeroCells36 36)).heap.size = w.heap.size + 1 + 1 + 1 := by simp
  go_enter Tryz.func63, Tryz.ntmps63
  go_upto_region 1 with fail
  generalize (((w.alloc (.cells (mcells n K) 36)).alloc (.cells (mcells m L) 36)).alloc (.cells Tryz.zeroCells36 36)) = W at *
  have hmf := b1.mf hm
  have hL := hl.slc
  obtain ⟨A, cc, ex, -⟩ := hl.t
  have Ex := Lib.hid ex
  have u1 := hmf.t.trans (congrArg some ex)
  have u0 := (b0.mf hn).t
  have f0 := Blk.frozen b0 79
  have b3 : IsM (W.setCell ⟨w.heap.size, 79, none⟩ (.slice A m.trail.length cc)) w.heap.size n { K with t := .slice A m.trail.length cc } := IsM.of (Blk.set_ b0 79 (.slice A m.trail.length cc)) (set_t n K hn (.slice A m.trail.length cc))
  have c3 : Chg (fun k => k = w.heap.size) W (W.setCell ⟨w.heap.size, 79, none⟩ (.slice A m.trail.length cc)) := (Chg.refl (fun k => k = w.heap.size) W).setCell (.inl rfl) _
  have hd3 : Dg n := ⟨hn.h, hn.e⟩
  have b4 : Blk (W.setCell ⟨w.heap.size, 79, none⟩ (.slice A m.trail.length cc)) (w.heap.size + 1 + 1) 36 Tryz.zeroCells36 := b2.chg c3 (by omega)
  have hlm := ldM hd3 b3
  have hsm := stM b4 (by rw [zero_msg]; exact mc_len _ _ (only_dg 0 0)) hd3 (show Slc ({ K with t := .slice A m.trail.length cc }) from ⟨rfl, hK.s, hK.p, hK.y⟩)
  have hc4 : Chg (fun _ => False) w ((W.setCell ⟨w.heap.size, 79, none⟩ (.slice A m.trail.length cc)).setRow (w.heap.size + 1 + 1) (mcells n { K with t := .slice A m.trail.length cc })) := (ch.andThen c3 (fun k hk e => by omega)).setRow (.inr (by omega)) _
  have B4 := Lib.hid (Blk.setRow b4 (mcells n { K with t := .slice A m.trail.length cc }))
  have HC := Lib.hid hc4
  have Hd3 := Lib.hid hd3
  clear b3 c3 b4 hc4 hd3 hmf b0 b1 b2 ch hn hm hK hl hz hL ex
  go_wp2_with fail
  refine bodyPost_ret (results_cell_row rfl _ _ (w.heap.size + 1 + 1) 36 (mcells n { K with t := .slice A m.trail.length cc }) (0, 0) _ rfl B4.out Tryz.underlying36 rfl (by rw [mc_len _ _ Hd3.out]; exact info_msg)) rfl ?_
  exact ⟨by rw [show putL K L .t = { K with t := .slice A m.trail.length cc } from by unfold putL; rw [Ex.out]]; rfl, HC.out⟩
set_option maxHeartbeats 4000000 in
set_option maxRecDepth 100000 in
theorem rwith_s (n m : M) (K L : Ls) (w : World) (hn : Dg n) (hm : Dg m) (hK : Slc K) (hl : IsL w m L) :
    Calls Tryz.prog 63 #[.agg (mcells n K), .agg (mcells m L), .int .u8 115] w fun e w' => e = .returned (.agg (mcells (Wm.put n m .s) (putL K L .s))) ∧ Chg (fun _ => False) w w' := by
  have b0 : IsM (((w.alloc (.cells (mcells n K) 36)).alloc (.cells (mcells m L) 36)).alloc (.cells Tryz.zeroCells36 36)) w.heap.size n K := ((Blk.new w 36 (mcells n K)).alloc _).alloc _
  have b1 : IsM (((w.alloc (.cells (mcells n K) 36)).alloc (.cells (mcells m L) 36)).alloc (.cells Tryz.zeroCells36 36)) (w.heap.size + 1) m L := by
    have := (Blk.new (w.alloc (.cells (mcells n K) 36)) 36 (mcells m L)).alloc (.cells Tryz.zeroCells36 36)
    simpa [IsM] using this
  have b2 : Blk (((w.alloc (.cells (mcells n K) 36)).alloc (.cells (mcells m L) 36)).alloc (.cells Tryz.zeroCells36 36)) (w.heap.size + 1 + 1) 36 Tryz.zeroCells36 := by
    have := Blk.new ((w.alloc (.cells (mcells n K) 36)).alloc (.cells (mcells m L) 36)) 36 Tryz.zeroCells36
    simpa using this
  have ch : Chg (fun _ => False) w (((w.alloc (.cells (mcells n K) 36)).alloc (.cells (mcells m L) 36)).alloc (.cells Tryz.zeroCells36 36)) := (((Chg.refl _ w).alloc _).alloc _).alloc _
  have hz : (((w.alloc (.cells (mcells n K) 36)).alloc (.cells (mcells m L) 36)).alloc (.cells Tryz.zeroCells36 36)).heap.size = w.heap.size + 1 + 1 + 1 := by simp
  go_enter Tryz.func63, Tryz.ntmps63
  go_upto_region 1 with fail
  generalize (((w.alloc (.cells (mcells n K) 36)).alloc (.cells (mcells m L) 36)).alloc (.cells Tryz.zeroCells36 36)) = W at *
  have hmf := b1.mf hm
  have hL := hl.slc
  obtain ⟨A, cc, ex, -⟩ := hl.s
  have Ex := Lib.hid ex
  have u1 := hmf.s.trans (congrArg some ex)
  have u0 := (b0.mf hn).s
  have f0 := Blk.frozen b0 80
  have b3 : IsM (W.setCell ⟨w.heap.size, 80, none⟩ (.slice A m.since.length cc)) w.heap.size n { K with s := .slice A m.since.length cc } := IsM.of (Blk.set_ b0 80 (.slice A m.since.length cc)) (set_s n K hn (.slice A m.since.length cc))
  have c3 : Chg (fun k => k = w.heap.size) W (W.setCell ⟨w.heap.size, 80, none⟩ (.slice A m.since.length cc)) := (Chg.refl (fun k => k = w.heap.size) W).setCell (.inl rfl) _
  have hd3 : Dg n := ⟨hn.h, hn.e⟩
  have b4 : Blk (W.setCell ⟨w.heap.size, 80, none⟩ (.slice A m.since.length cc)) (w.heap.size + 1 + 1) 36 Tryz.zeroCells36 := b2.chg c3 (by omega)
  have hlm := ldM hd3 b3
  have hsm := stM b4 (by rw [zero_msg]; exact mc_len _ _ (only_dg 0 0)) hd3 (show Slc ({ K with s := .slice A m.since.length cc }) from ⟨hK.t, rfl, hK.p, hK.y⟩)
  have hc4 : Chg (fun _ => False) w ((W.setCell ⟨w.heap.size, 80, none⟩ (.slice A m.since.length cc)).setRow (w.heap.size + 1 + 1) (mcells n { K with s := .slice A m.since.length cc })) := (ch.andThen c3 (fun k hk e => by omega)).setRow (.inr (by omega)) _
  have B4 := Lib.hid (Blk.setRow b4 (mcells n { K with s := .slice A m.since.length cc }))
  have HC := Lib.hid hc4
  have Hd3 := Lib.hid hd3
  clear b3 c3 b4 hc4 hd3 hmf b0 b1 b2 ch hn hm hK hl hz hL ex
  go_wp2_with fail
  refine bodyPost_ret (results_cell_row rfl _ _ (w.heap.size + 1 + 1) 36 (mcells n { K with s := .slice A m.since.length cc }) (0, 0) _ rfl B4.out Tryz.underlying36 rfl (by rw [mc_len _ _ Hd3.out]; exact info_msg)) rfl ?_
  exact ⟨by rw [show putL K L .s = { K with s := .slice A m.since.length cc } from by unfold putL; rw [Ex.out]]; rfl, HC.out⟩
set_option maxHeartbeats 4000000 in
set_option maxRecDepth 100000 in
theorem rwith_P (n m : M) (K L : Ls) (w : World) (hn : Dg n) (hm : Dg m) (hK : Slc K) (hl : IsL w m L) :
    Calls Tryz.prog 63 #[.agg (mcells n K), .agg (mcells m L), .int .u8 80] w fun e w' => e = .returned (.agg (mcells (Wm.put n m .P) (putL K L .P))) ∧ Chg (fun _ => False) w w' := by
  have b0 : IsM (((w.alloc (.cells (mcells n K) 36)).alloc (.cells (mcells m L) 36)).alloc (.cells Tryz.zeroCells36 36)) w.heap.size n K := ((Blk.new w 36 (mcells n K)).alloc _).alloc _
  have b1 : IsM (((w.alloc (.cells (mcells n K) 36)).alloc (.cells (mcells m L) 36)).alloc (.cells Tryz.zeroCells36 36)) (w.heap.size + 1) m L := by
    have := (Blk.new (w.alloc (.cells (mcells n K) 36)) 36 (mcells m L)).alloc (.cells Tryz.zeroCells36 36)
    simpa [IsM] using this
  have b2 : Blk (((w.alloc (.cells (mcells n K) 36)).alloc (.cells (mcells m L) 36)).alloc (.cells Tryz.zeroCells36 36)) (w.heap.size + 1 + 1) 36 Tryz.zeroCells36 := by
    have := Blk.new ((w.alloc (.cells (mcells n K) 36)).alloc (.cells (mcells m L) 36)) 36 Tryz.zeroCells36
    simpa using this
  have ch : Chg (fun _ => False) w (((w.alloc (.cells (mcells n K) 36)).alloc (.cells (mcells m L) 36)).alloc (.cells Tryz.zeroCells36 36)) := (((Chg.refl _ w).alloc _).alloc _).alloc _
  have hz : (((w.alloc (.cells (mcells n K) 36)).alloc (.cells (mcells m L) 36)).alloc (.cells Tryz.zeroCells36 36)).heap.size = w.heap.size + 1 + 1 + 1 := by simp
  go_enter Tryz.func63, Tryz.ntmps63
  go_upto_region 1 with fail
  generalize (((w.alloc (.cells (mcells n K) 36)).alloc (.cells (mcells m L) 36)).alloc (.cells Tryz.zeroCells36 36)) = W at *
  have hmf := b1.mf hm
  have hL := hl.slc
  obtain ⟨A, cc, ex, -⟩ := hl.p
  have Ex := Lib.hid ex
  have u1 := hmf.p.trans (congrArg some ex)
  have u0 := (b0.mf hn).p
  have f0 := Blk.frozen b0 81
  have b3 : IsM (W.setCell ⟨w.heap.size, 81, none⟩ (.slice A m.pairs.length cc)) w.heap.size n { K with p := .slice A m.pairs.length cc } := IsM.of (Blk.set_ b0 81 (.slice A m.pairs.length cc)) (set_p n K hn (.slice A m.pairs.length cc))
  have c3 : Chg (fun k => k = w.heap.size) W (W.setCell ⟨w.heap.size, 81, none⟩ (.slice A m.pairs.length cc)) := (Chg.refl (fun k => k = w.heap.size) W).setCell (.inl rfl) _
  have hd3 : Dg n := ⟨hn.h, hn.e⟩
  have b4 : Blk (W.setCell ⟨w.heap.size, 81, none⟩ (.slice A m.pairs.length cc)) (w.heap.size + 1 + 1) 36 Tryz.zeroCells36 := b2.chg c3 (by omega)
  have hlm := ldM hd3 b3
  have hsm := stM b4 (by rw [zero_msg]; exact mc_len _ _ (only_dg 0 0)) hd3 (show Slc ({ K with p := .slice A m.pairs.length cc }) from ⟨hK.t, hK.s, rfl, hK.y⟩)
  have hc4 : Chg (fun _ => False) w ((W.setCell ⟨w.heap.size, 81, none⟩ (.slice A m.pairs.length cc)).setRow (w.heap.size + 1 + 1) (mcells n { K with p := .slice A m.pairs.length cc })) := (ch.andThen c3 (fun k hk e => by omega)).setRow (.inr (by omega)) _
  have B4 := Lib.hid (Blk.setRow b4 (mcells n { K with p := .slice A m.pairs.length cc }))
  have HC := Lib.hid hc4
  have Hd3 := Lib.hid hd3
  clear b3 c3 b4 hc4 hd3 hmf b0 b1 b2 ch hn hm hK hl hz hL ex
  go_wp2_with fail
  refine bodyPost_ret (results_cell_row rfl _ _ (w.heap.size + 1 + 1) 36 (mcells n { K with p := .slice A m.pairs.length cc }) (0, 0) _ rfl B4.out Tryz.underlying36 rfl (by rw [mc_len _ _ Hd3.out]; exact info_msg)) rfl ?_
  exact ⟨by rw [show putL K L .P = { K with p := .slice A m.pairs.length cc } from by unfold putL; rw [Ex.out]]; rfl, HC.out⟩
set_option maxHeartbeats 4000000 in
set_option maxRecDepth 100000 in
theorem rwith_W (n m : M) (K L : Ls) (w : World) (hn : Dg n) (hm : Dg m) (hK : Slc K) (hl : IsL w m L) :
    Calls Tryz.prog 63 #[.agg (mcells n K), .agg (mcells m L), .int .u8 87] w fun e w' => e = .returned (.agg (mcells (Wm.put n m .W) (putL K L .W))) ∧ Chg (fun _ => False) w w' := by
  have b0 : IsM (((w.alloc (.cells (mcells n K) 36)).alloc (.cells (mcells m L) 36)).alloc (.cells Tryz.zeroCells36 36)) w.heap.size n K := ((Blk.new w 36 (mcells n K)).alloc _).alloc _
  have b1 : IsM (((w.alloc (.cells (mcells n K) 36)).alloc (.cells (mcells m L) 36)).alloc (.cells Tryz.zeroCells36 36)) (w.heap.size + 1) m L := by
    have := (Blk.new (w.alloc (.cells (mcells n K) 36)) 36 (mcells m L)).alloc (.cells Tryz.zeroCells36 36)
    simpa [IsM] using this
  have b2 : Blk (((w.alloc (.cells (mcells n K) 36)).alloc (.cells (mcells m L) 36)).alloc (.cells Tryz.zeroCells36 36)) (w.heap.size + 1 + 1) 36 Tryz.zeroCells36 := by
    have := Blk.new ((w.alloc (.cells (mcells n K) 36)).alloc (.cells (mcells m L) 36)) 36 Tryz.zeroCells36
    simpa using this
  have ch : Chg (fun _ => False) w (((w.alloc (.cells (mcells n K) 36)).alloc (.cells (mcells m L) 36)).alloc (.cells Tryz.zeroCells36 36)) := (((Chg.refl _ w).alloc _).alloc _).alloc _
  have hz : (((w.alloc (.cells (mcells n K) 36)).alloc (.cells (mcells m L) 36)).alloc (.cells Tryz.zeroCells36 36)).heap.size = w.heap.size + 1 + 1 + 1 := by simp
  go_enter Tryz.func63, Tryz.ntmps63
  go_upto_region 1 with fail
  generalize (((w.alloc (.cells (mcells n K) 36)).alloc (.cells (mcells m L) 36)).alloc (.cells Tryz.zeroCells36 36)) = W at *
  have hmf := b1.mf hm
  have hL := hl.slc
  obtain ⟨A, cc, ex, -⟩ := hl.y
  have Ex := Lib.hid ex
  have u1 := hmf.y.trans (congrArg some ex)
  have u0 := (b0.mf hn).y
  have f0 := Blk.frozen b0 82
  have b3 : IsM (W.setCell ⟨w.heap.size, 82, none⟩ (.slice A m.way.length cc)) w.heap.size n { K with y := .slice A m.way.length cc } := IsM.of (Blk.set_ b0 82 (.slice A m.way.length cc)) (set_y n K hn (.slice A m.way.length cc))
  have c3 : Chg (fun k => k = w.heap.size) W (W.setCell ⟨w.heap.size, 82, none⟩ (.slice A m.way.length cc)) := (Chg.refl (fun k => k = w.heap.size) W).setCell (.inl rfl) _
  have hd3 : Dg n := ⟨hn.h, hn.e⟩
  have b4 : Blk (W.setCell ⟨w.heap.size, 82, none⟩ (.slice A m.way.length cc)) (w.heap.size + 1 + 1) 36 Tryz.zeroCells36 := b2.chg c3 (by omega)
  have hlm := ldM hd3 b3
  have hsm := stM b4 (by rw [zero_msg]; exact mc_len _ _ (only_dg 0 0)) hd3 (show Slc ({ K with y := .slice A m.way.length cc }) from ⟨hK.t, hK.s, hK.p, rfl⟩)
  have hc4 : Chg (fun _ => False) w ((W.setCell ⟨w.heap.size, 82, none⟩ (.slice A m.way.length cc)).setRow (w.heap.size + 1 + 1) (mcells n { K with y := .slice A m.way.length cc })) := (ch.andThen c3 (fun k hk e => by omega)).setRow (.inr (by omega)) _
  have B4 := Lib.hid (Blk.setRow b4 (mcells n { K with y := .slice A m.way.length cc }))
  have HC := Lib.hid hc4
  have Hd3 := Lib.hid hd3
  clear b3 c3 b4 hc4 hd3 hmf b0 b1 b2 ch hn hm hK hl hz hL ex
  go_wp2_with fail
  refine bodyPost_ret (results_cell_row rfl _ _ (w.heap.size + 1 + 1) 36 (mcells n { K with y := .slice A m.way.length cc }) (0, 0) _ rfl B4.out Tryz.underlying36 rfl (by rw [mc_len _ _ Hd3.out]; exact info_msg)) rfl ?_
  exact ⟨by rw [show putL K L .W = { K with y := .slice A m.way.length cc } from by unfold putL; rw [Ex.out]]; rfl, HC.out⟩
set_option maxHeartbeats 4000000 in
set_option maxRecDepth 100000 in
theorem rwith_B (n m : M) (K L : Ls) (w : World) (hn : Dg n) (hm : Dg m) (hK : Slc K) (hl : IsL w m L) :
    Calls Tryz.prog 63 #[.agg (mcells n K), .agg (mcells m L), .int .u8 66] w fun e w' => e = .returned (.agg (mcells (Wm.put n m .B) (putL K L .B))) ∧ Chg (fun _ => False) w w' := by
  have b0 : IsM (((w.alloc (.cells (mcells n K) 36)).alloc (.cells (mcells m L) 36)).alloc (.cells Tryz.zeroCells36 36)) w.heap.size n K := ((Blk.new w 36 (mcells n K)).alloc _).alloc _
  have b1 : IsM (((w.alloc (.cells (mcells n K) 36)).alloc (.cells (mcells m L) 36)).alloc (.cells Tryz.zeroCells36 36)) (w.heap.size + 1) m L := by
    have := (Blk.new (w.alloc (.cells (mcells n K) 36)) 36 (mcells m L)).alloc (.cells Tryz.zeroCells36 36)
    simpa [IsM] using this
  have b2 : Blk (((w.alloc (.cells (mcells n K) 36)).alloc (.cells (mcells m L) 36)).alloc (.cells Tryz.zeroCells36 36)) (w.heap.size + 1 + 1) 36 Tryz.zeroCells36 := by
    have := Blk.new ((w.alloc (.cells (mcells n K) 36)).alloc (.cells (mcells m L) 36)) 36 Tryz.zeroCells36
    simpa using this
  have ch : Chg (fun _ => False) w (((w.alloc (.cells (mcells n K) 36)).alloc (.cells (mcells m L) 36)).alloc (.cells Tryz.zeroCells36 36)) := (((Chg.refl _ w).alloc _).alloc _).alloc _
  have hz : (((w.alloc (.cells (mcells n K) 36)).alloc (.cells (mcells m L) 36)).alloc (.cells Tryz.zeroCells36 36)).heap.size = w.heap.size + 1 + 1 + 1 := by simp
  go_enter Tryz.func63, Tryz.ntmps63
  go_upto_region 1 with fail
  generalize (((w.alloc (.cells (mcells n K) 36)).alloc (.cells (mcells m L) 36)).alloc (.cells Tryz.zeroCells36 36)) = W at *
  have hmf := b1.mf hm
  have u1 := hmf.bytes
  have u0 := (b0.mf hn).bytes
  have f0 := Blk.frozen b0 83
  have b3 : IsM (W.setCell ⟨w.heap.size, 83, none⟩ (S m.bytes)) w.heap.size { n with bytes := m.bytes } K := IsM.of (Blk.set_ b0 83 (S m.bytes)) (set_bytes n K hn m.bytes)
  have c3 : Chg (fun k => k = w.heap.size) W (W.setCell ⟨w.heap.size, 83, none⟩ (S m.bytes)) := (Chg.refl (fun k => k = w.heap.size) W).setCell (.inl rfl) _
  have hd3 : Dg { n with bytes := m.bytes } := ⟨hn.h, hn.e⟩
  have b4 : Blk (W.setCell ⟨w.heap.size, 83, none⟩ (S m.bytes)) (w.heap.size + 1 + 1) 36 Tryz.zeroCells36 := b2.chg c3 (by omega)
  have hlm := ldM hd3 b3
  have hsm := stM b4 (by rw [zero_msg]; exact mc_len _ _ (only_dg 0 0)) hd3 (show Slc (K) from hK)
  have hc4 : Chg (fun _ => False) w ((W.setCell ⟨w.heap.size, 83, none⟩ (S m.bytes)).setRow (w.heap.size + 1 + 1) (mcells { n with bytes := m.bytes } K)) := (ch.andThen c3 (fun k hk e => by omega)).setRow (.inr (by omega)) _
  have B4 := Lib.hid (Blk.setRow b4 (mcells { n with bytes := m.bytes } K))
  have HC := Lib.hid hc4
  have Hd3 := Lib.hid hd3
  clear b3 c3 b4 hc4 hd3 hmf b0 b1 b2 ch hn hm hK hl hz
  go_wp2_with fail
  refine bodyPost_ret (results_cell_row rfl _ _ (w.heap.size + 1 + 1) 36 (mcells { n with bytes := m.bytes } K) (0, 0) _ rfl B4.out Tryz.underlying36 rfl (by rw [mc_len _ _ Hd3.out]; exact info_msg)) rfl ?_
  exact ⟨rfl, HC.out⟩
theorem rwith_calls (c : Wm.Fd) (n m : M) (K L : Ls) (w : World) (hn : Dg n) (hm : Dg m) (hK : Slc K) (hl : IsL w m L) :
    Calls Tryz.prog 63 #[.agg (mcells n K), .agg (mcells m L), .int .u8 (letr c).toNat] w fun e w' => e = .returned (.agg (mcells (Wm.put n m c) (putL K L c))) ∧ Chg (fun _ => False) w w' := by
  cases c
  case K => exact rwith_K n m K L w hn hm hK hl
  case T => exact rwith_T n m K L w hn hm hK hl
  case V => exact rwith_V n m K L w hn hm hK hl
  case L => exact rwith_L n m K L w hn hm hK hl
  case F => exact rwith_F n m K L w hn hm hK hl
  case S => exact rwith_S n m K L w hn hm hK hl
  case f => exact rwith_f n m K L w hn hm hK hl
  case m => exact rwith_m n m K L w hn hm hK hl
  case C => exact rwith_C n m K L w hn hm hK hl
  case H => exact rwith_H n m K L w hn hm hK hl
  case E => exact rwith_E n m K L w hn hm hK hl
  case t => exact rwith_t n m K L w hn hm hK hl
  case s => exact rwith_s n m K L w hn hm hK hl
  case P => exact rwith_P n m K L w hn hm hK hl
  case W => exact rwith_W n m K L w hn hm hK hl
  case B => exact rwith_B n m K L w hn hm hK hl
end Go.Proofs.YthkfcfkkamffpaaGreat
namespace Go.Proofs.YthkfcfkkamffpaaGreat
open Go.RowKit
set_option linter.unusedVariables false
set_option linter.unusedSimpArgs false
open Wm (M)
attribute [local go_sem ↓] ld_dig st_dig
set_option maxHeartbeats 4000000 in
set_option maxRecDepth 100000 in
theorem rbit_c (b : Bool) (w : World) : Calls Tryz.prog 67 #[.bool b] w fun e w' => e = .returned (S (Wm.bit b)) ∧ w = w' := by
  cases b
  · go_enter Tryz.func67, Tryz.ntmps67
    go_wp2_with fail
    go_ret
    exact ⟨rfl, rfl⟩
  · go_enter Tryz.func67, Tryz.ntmps67
    go_wp2_with fail
    go_ret
    exact ⟨rfl, rfl⟩
set_option maxHeartbeats 4000000 in
set_option maxRecDepth 100000 in
theorem rshort_calls (A : Option Addr) (n c : Nat) (parts : List (List UInt8)) (w : World) (hl : Lst w A n (strs parts)) (hn : n ≤ 1048576) :
    Calls Tryz.prog 64 #[.slice A n c] w fun e w' => e = .returned (.bool (parts.all Wm.short)) ∧ w = w' := by
  have hpl : parts.length = n := by have := hl.1; simpa [strs] using this
  have Hl := Lib.hid hl
  have Hpl := Lib.hid hpl
  clear hl hpl
  go_enter Tryz.func64, Tryz.ntmps64
  go_wp2_with fail
  go_loop [3] (fun iv => ∃ k : Nat, k ≤ n ∧ iv = .int .i64 k ∧ parts.all Wm.short = (parts.drop k).all Wm.short) (fun iv => n - (intOf iv).toNat)
  case atStart => exact ⟨0, by omega, rfl, rfl⟩
  case round =>
    obtain ⟨k, hk, rfl, hall⟩ := hrel
    by_cases hp : k < n
    · obtain ⟨x, hx⟩ : ∃ x, parts[k]? = some x := ⟨_, List.getElem?_eq_getElem (by have := Hpl.out; omega)⟩
      obtain ⟨b, off, u, rfl, hu, hcell⟩ := Hl.out.at_ hp
      have hu2 : u = S x := by
        simp only [strs, List.getElem?_map, hx, Option.map_some] at hu
        injection hu with hu; exact hu.symm
      subst hu2
      have hdr : (parts.drop k).all Wm.short = (Wm.short x && (parts.drop (k + 1)).all Wm.short) := by
        have hk2 := (List.getElem?_eq_some_iff.1 hx).1
        rw [List.drop_eq_getElem_cons hk2, List.all_cons, (List.getElem?_eq_some_iff.1 hx).2]
      rw [hdr] at hall
      have Hall := Lib.hid hall
      clear hall hdr hx hu
      by_cases hs : x.length ≤ 1024
      · have q1 : decide ((x.length : Int) > 1024) = false := decide_eq_false (by omega)
        have Hs := Lib.hid (show Wm.short x = true by simpa [Wm.short] using hs)
        go_wp2_with fail
        go_round
        case rel => exact ⟨k + 1, by omega, by go_num, by rw [Hall.out, Hs.out]; rfl⟩
        case measure => simp [intOf]; omega
      · have q1 : decide ((x.length : Int) > 1024) = true := decide_eq_true (by omega)
        have Hs := Lib.hid (show Wm.short x = false by simpa [Wm.short] using hs)
        go_wp2_with fail
        go_ret
        exact ⟨ret_bool (by rw [Hall.out, Hs.out]; rfl), rfl⟩
    · obtain rfl : k = n := by omega
      have Hall := Lib.hid hall
      clear hall
      go_wp2_with fail
      go_ret
      exact ⟨ret_bool (by rw [Hall.out, List.drop_of_length_le (by have := Hpl.out; omega)]; rfl), rfl⟩
set_option maxHeartbeats 4000000 in
set_option maxRecDepth 100000 in
theorem rdigs_calls (A : Option Addr) (c : Nat) (l : List (List UInt8)) (w : World) (hl : RL w A 32 l.length (l.flatMap fun x => bys x)) (h32 : ∀ d ∈ l, d.length = 32) (hn : l.length ≤ 1048576) :
    Calls Tryz.prog 69 #[.slice A l.length c] w fun e w' => e = .returned (S (Pk.free l.length ++ l.flatten)) ∧ Chg (fun _ => False) w w' := by
  have Hl := Lib.hid hl
  have H32 := Lib.hid h32
  have HF := Lib.hid (fun W => ref_free 9 l.length (by omega) (by unfold U64; omega) W)
  have hfl := free10 l.length (by omega)
  have hfl2 : (l.flatMap fun d => d).length ≤ l.length * 32 := flat_len (fun d => d) 32 l (fun d hd => by rw [h32 d hd]; omega)
  have Hf2 := Lib.hid (And.intro hfl hfl2)
  clear hl h32 hfl hfl2
  go_enter Tryz.func69, Tryz.ntmps69
  go_wp2_with fail
  refine (HF.out _).mono ?_
  rintro e w1 ⟨rfl, hc1⟩
  have C1 := Lib.hid hc1
  clear hc1
  go_wp2_with fail
  go_loopw [3, 4] (fun sv iv wr => ∃ k : Nat, k ≤ l.length ∧ sv = S (Pk.free l.length ++ (l.take k).flatten) ∧ iv = .int .i64 k ∧ Chg (fun _ => False) w wr) (fun _ iv _ => l.length - (intOf iv).toNat)
  case atStart => exact ⟨0, by omega, by simp, rfl, C1.out⟩
  case round =>
    obtain ⟨k, hk, rfl, rfl, hc⟩ := hrel
    by_cases hp : k < l.length
    · obtain ⟨x, hx⟩ : ∃ x, l[k]? = some x := ⟨_, List.getElem?_eq_getElem hp⟩
      obtain ⟨b, off, rfl, hcell⟩ := RL.at_ (size := 32) (f := fun x => bys x) (fun x hm => by rw [bys_length]; exact H32.out x hm) (Hl.out.chg hc (fun _ _ _ _ h => h)) hx
      have hx32 := H32.out x (List.mem_of_getElem? hx)
      have hld := ld_mid wr b (off + k * 32) x hx32 hcell
      have HD := Lib.hid (fun W => ref_digest 32 x W hx32)
      have htk : (l.take (k + 1)).flatten = (l.take k).flatten ++ x := by rw [List.take_add_one, hx]; simp
      have hle : (l.take k).flatten.length ≤ 1048576 * 32 := by
        have := flat_len (fun d => d) 32 (l.take k) (fun d hd => by rw [H32.out d (List.mem_of_mem_take hd)]; omega)
        rw [flat_id] at this
        rw [List.length_take] at this
        have h2 : min k l.length * 32 ≤ 1048576 * 32 := Nat.mul_le_mul_right _ (by omega)
        omega
      have hadd := fun w => add_S (Pk.free l.length ++ (l.take k).flatten) x (by rw [List.length_append]; have := Hf2.out.1; omega) w
      have Htk := Lib.hid htk
      have Hc := Lib.hid hc
      have Hx32 := Lib.hid hx32
      clear htk hle hx hcell hc hx32
      go_wp2_with fail
      refine (HD.out _).mono ?_
      rintro e w2 ⟨rfl, hc2⟩
      rw [wd32, List.take_of_length_le (by rw [Hx32.out]; omega)]
      go_wp2_with fail
      go_roundw
      case rel => exact ⟨k + 1, by omega, by rw [Htk.out, ← List.append_assoc], by go_num, Hc.out.trans hc2⟩
      case measure => simp [intOf]; omega
    · obtain rfl : k = l.length := by omega
      go_wp2_with fail
      go_ret
      exact ⟨ret_S (by rw [List.take_length]), hc⟩
end Go.Proofs.YthkfcfkkamffpaaGreat
namespace Go.Proofs.YthkfcfkkamffpaaGreat
open Go.RowKit
set_option linter.unusedVariables false
set_option linter.unusedSimpArgs false
open Wm (M)
attribute [local go_sem ↓] ld_msg st_msg
set_option maxHeartbeats 4000000 in
set_option maxRecDepth 100000 in
theorem rfield_K (m : M) (L : Ls) (w : World) (hm : Nm m) (hl : IsL w m L) (hf : Wm.fit m .K = true) :
    Calls Tryz.prog 37 #[.agg (mcells m L), .int .u8 75] w fun e w' => e = .returned (S (Wm.fb m .K)) ∧ Chg (fun _ => False) w w' := by
  have b0 : IsM (w.alloc (.cells (mcells m L) 36)) w.heap.size m L := Blk.new w _ _
  have hmf := b0.mf hm.hd
  have C0 := Lib.hid ((Chg.refl (fun _ => False) w).alloc (.cells (mcells m L) 36))
  have u := hmf.key
  have hlen : m.key.length ≤ 1024 := by simpa [Wm.fit, Wm.short] using hf
  have HT := Lib.hid (fun W => ref_text m.key (by omega) W)
  clear b0 hmf hm hl hf hlen
  go_enter Tryz.func37, Tryz.ntmps37
  go_wp2_with fail
  refine (HT.out _).mono ?_
  rintro e w1 ⟨rfl, hc⟩
  go_wp2_with fail
  go_ret
  exact ⟨rfl, C0.out.trans hc⟩
set_option maxHeartbeats 4000000 in
set_option maxRecDepth 100000 in
theorem rfield_T (m : M) (L : Ls) (w : World) (hm : Nm m) (hl : IsL w m L) (hf : Wm.fit m .T = true) :
    Calls Tryz.prog 37 #[.agg (mcells m L), .int .u8 84] w fun e w' => e = .returned (S (Wm.fb m .T)) ∧ Chg (fun _ => False) w w' := by
  have b0 : IsM (w.alloc (.cells (mcells m L) 36)) w.heap.size m L := Blk.new w _ _
  have hmf := b0.mf hm.hd
  have C0 := Lib.hid ((Chg.refl (fun _ => False) w).alloc (.cells (mcells m L) 36))
  have u := hmf.to
  have hlen : m.to.length ≤ 1024 := by simpa [Wm.fit, Wm.short] using hf
  have HT := Lib.hid (fun W => ref_text m.to (by omega) W)
  clear b0 hmf hm hl hf hlen
  go_enter Tryz.func37, Tryz.ntmps37
  go_wp2_with fail
  refine (HT.out _).mono ?_
  rintro e w1 ⟨rfl, hc⟩
  go_wp2_with fail
  go_ret
  exact ⟨rfl, C0.out.trans hc⟩
set_option maxHeartbeats 4000000 in
set_option maxRecDepth 100000 in
theorem rfield_V (m : M) (L : Ls) (w : World) (hm : Nm m) (hl : IsL w m L) (hf : Wm.fit m .V = true) :
    Calls Tryz.prog 37 #[.agg (mcells m L), .int .u8 86] w fun e w' => e = .returned (S (Wm.fb m .V)) ∧ Chg (fun _ => False) w w' := by
  have b0 : IsM (w.alloc (.cells (mcells m L) 36)) w.heap.size m L := Blk.new w _ _
  have hmf := b0.mf hm.hd
  have C0 := Lib.hid ((Chg.refl (fun _ => False) w).alloc (.cells (mcells m L) 36))
  have u := hmf.val
  have hlen : m.val.length ≤ 1024 := by simpa [Wm.fit, Wm.short] using hf
  have HT := Lib.hid (fun W => ref_text m.val (by omega) W)
  clear b0 hmf hm hl hf hlen
  go_enter Tryz.func37, Tryz.ntmps37
  go_wp2_with fail
  refine (HT.out _).mono ?_
  rintro e w1 ⟨rfl, hc⟩
  go_wp2_with fail
  go_ret
  exact ⟨rfl, C0.out.trans hc⟩
set_option maxHeartbeats 4000000 in
set_option maxRecDepth 100000 in
theorem rfield_B (m : M) (L : Ls) (w : World) (hm : Nm m) (hl : IsL w m L) (hf : Wm.fit m .B = true) :
    Calls Tryz.prog 37 #[.agg (mcells m L), .int .u8 66] w fun e w' => e = .returned (S (Wm.fb m .B)) ∧ Chg (fun _ => False) w w' := by
  have b0 : IsM (w.alloc (.cells (mcells m L) 36)) w.heap.size m L := Blk.new w _ _
  have hmf := b0.mf hm.hd
  have C0 := Lib.hid ((Chg.refl (fun _ => False) w).alloc (.cells (mcells m L) 36))
  have u := hmf.bytes
  have hlen : m.bytes.length ≤ 1048576 := by simpa [Wm.fit, Wm.short] using hf
  have HT := Lib.hid (fun W => ref_text m.bytes (by omega) W)
  clear b0 hmf hm hl hf hlen
  go_enter Tryz.func37, Tryz.ntmps37
  go_wp2_with fail
  refine (HT.out _).mono ?_
  rintro e w1 ⟨rfl, hc⟩
  go_wp2_with fail
  go_ret
  exact ⟨rfl, C0.out.trans hc⟩
set_option maxHeartbeats 4000000 in
set_option maxRecDepth 100000 in
theorem rfield_L (m : M) (L : Ls) (w : World) (hm : Nm m) (hl : IsL w m L) (hf : Wm.fit m .L = true) :
    Calls Tryz.prog 37 #[.agg (mcells m L), .int .u8 76] w fun e w' => e = .returned (S (Wm.fb m .L)) ∧ Chg (fun _ => False) w w' := by
  have b0 : IsM (w.alloc (.cells (mcells m L) 36)) w.heap.size m L := Blk.new w _ _
  have hmf := b0.mf hm.hd
  have C0 := Lib.hid ((Chg.refl (fun _ => False) w).alloc (.cells (mcells m L) 36))
  have u := hmf.limit
  have hb : 0 ≤ m.limit ∧ m.limit ≤ 65535 := by
    simp only [Wm.fit, decide_eq_true_eq] at hf
    omega
  obtain ⟨k, hk⟩ : ∃ k : Nat, m.limit = (k : Int) := ⟨m.limit.toNat, by omega⟩
  have hk2 : k ≤ 65535 := by omega
  have Hk := Lib.hid (show m.limit.toNat = k by omega)
  rw [hk] at u
  have hcv : IntKind.u64.wrap (k : Int) = (k : Int) := by rw [IntKind.wrap_u64]; omega
  have HT := Lib.hid (fun W => ref_freeI (k : Int) k rfl (by unfold U64; omega) W)
  clear b0 hmf hm hl hf hb hk
  go_enter Tryz.func37, Tryz.ntmps37
  go_wp2_with fail
  refine (HT.out _).mono ?_
  rintro e w1 ⟨rfl, hc⟩
  go_wp2_with fail
  go_ret
  exact ⟨ret_S (by show Pk.free k = Pk.free m.limit.toNat; rw [Hk.out]), C0.out.trans hc⟩
set_option maxHeartbeats 4000000 in
set_option maxRecDepth 100000 in
theorem rfield_C (m : M) (L : Ls) (w : World) (hm : Nm m) (hl : IsL w m L) (hf : Wm.fit m .C = true) :
    Calls Tryz.prog 37 #[.agg (mcells m L), .int .u8 67] w fun e w' => e = .returned (S (Wm.fb m .C)) ∧ Chg (fun _ => False) w w' := by
  have b0 : IsM (w.alloc (.cells (mcells m L) 36)) w.heap.size m L := Blk.new w _ _
  have hmf := b0.mf hm.hd
  have C0 := Lib.hid ((Chg.refl (fun _ => False) w).alloc (.cells (mcells m L) 36))
  have u := hmf.code
  have hb : 0 ≤ m.code ∧ m.code ≤ 65535 := by
    simp only [Wm.fit, decide_eq_true_eq] at hf
    omega
  obtain ⟨k, hk⟩ : ∃ k : Nat, m.code = (k : Int) := ⟨m.code.toNat, by omega⟩
  have hk2 : k ≤ 65535 := by omega
  have Hk := Lib.hid (show m.code.toNat = k by omega)
  rw [hk] at u
  have hcv : IntKind.u64.wrap (k : Int) = (k : Int) := by rw [IntKind.wrap_u64]; omega
  have HT := Lib.hid (fun W => ref_freeI (k : Int) k rfl (by unfold U64; omega) W)
  clear b0 hmf hm hl hf hb hk
  go_enter Tryz.func37, Tryz.ntmps37
  go_wp2_with fail
  refine (HT.out _).mono ?_
  rintro e w1 ⟨rfl, hc⟩
  go_wp2_with fail
  go_ret
  exact ⟨ret_S (by show Pk.free k = Pk.free m.code.toNat; rw [Hk.out]), C0.out.trans hc⟩
set_option maxHeartbeats 4000000 in
set_option maxRecDepth 100000 in
theorem rfield_F (m : M) (L : Ls) (w : World) (hm : Nm m) (hl : IsL w m L) (hf : Wm.fit m .F = true) :
    Calls Tryz.prog 37 #[.agg (mcells m L), .int .u8 70] w fun e w' => e = .returned (S (Wm.fb m .F)) ∧ Chg (fun _ => False) w w' := by
  have b0 : IsM (w.alloc (.cells (mcells m L) 36)) w.heap.size m L := Blk.new w _ _
  have hmf := b0.mf hm.hd
  have C0 := Lib.hid ((Chg.refl (fun _ => False) w).alloc (.cells (mcells m L) 36))
  have u := hmf.frm
  have HT := Lib.hid (fun W => ref_freeI (m.frm : Int) m.frm rfl hm.frm W)
  clear b0 hmf hm hl hf
  go_enter Tryz.func37, Tryz.ntmps37
  go_wp2_with fail
  refine (HT.out _).mono ?_
  rintro e w1 ⟨rfl, hc⟩
  go_wp2_with fail
  go_ret
  exact ⟨rfl, C0.out.trans hc⟩
set_option maxHeartbeats 4000000 in
set_option maxRecDepth 100000 in
theorem rfield_S (m : M) (L : Ls) (w : World) (hm : Nm m) (hl : IsL w m L) (hf : Wm.fit m .S = true) :
    Calls Tryz.prog 37 #[.agg (mcells m L), .int .u8 83] w fun e w' => e = .returned (S (Wm.fb m .S)) ∧ Chg (fun _ => False) w w' := by
  have b0 : IsM (w.alloc (.cells (mcells m L) 36)) w.heap.size m L := Blk.new w _ _
  have hmf := b0.mf hm.hd
  have C0 := Lib.hid ((Chg.refl (fun _ => False) w).alloc (.cells (mcells m L) 36))
  have u := hmf.size
  have HT := Lib.hid (fun W => ref_freeI (m.size : Int) m.size rfl hm.size W)
  clear b0 hmf hm hl hf
  go_enter Tryz.func37, Tryz.ntmps37
  go_wp2_with fail
  refine (HT.out _).mono ?_
  rintro e w1 ⟨rfl, hc⟩
  go_wp2_with fail
  go_ret
  exact ⟨rfl, C0.out.trans hc⟩
set_option maxHeartbeats 4000000 in
set_option maxRecDepth 100000 in
theorem rfield_f (m : M) (L : Ls) (w : World) (hm : Nm m) (hl : IsL w m L) (hf : Wm.fit m .f = true) :
    Calls Tryz.prog 37 #[.agg (mcells m L), .int .u8 102] w fun e w' => e = .returned (S (Wm.fb m .f)) ∧ Chg (fun _ => False) w w' := by
  have b0 : IsM (w.alloc (.cells (mcells m L) 36)) w.heap.size m L := Blk.new w _ _
  have hmf := b0.mf hm.hd
  have C0 := Lib.hid ((Chg.refl (fun _ => False) w).alloc (.cells (mcells m L) 36))
  have u := hmf.found
  have HT := Lib.hid (fun W => rbit_c m.found W)
  clear b0 hmf hm hl hf
  go_enter Tryz.func37, Tryz.ntmps37
  go_wp2_with fail
  refine (HT.out _).mono ?_
  rintro e w1 ⟨rfl, rfl⟩
  go_wp2_with fail
  go_ret
  exact ⟨rfl, C0.out⟩
set_option maxHeartbeats 4000000 in
set_option maxRecDepth 100000 in
theorem rfield_m (m : M) (L : Ls) (w : World) (hm : Nm m) (hl : IsL w m L) (hf : Wm.fit m .m = true) :
    Calls Tryz.prog 37 #[.agg (mcells m L), .int .u8 109] w fun e w' => e = .returned (S (Wm.fb m .m)) ∧ Chg (fun _ => False) w w' := by
  have b0 : IsM (w.alloc (.cells (mcells m L) 36)) w.heap.size m L := Blk.new w _ _
  have hmf := b0.mf hm.hd
  have C0 := Lib.hid ((Chg.refl (fun _ => False) w).alloc (.cells (mcells m L) 36))
  have u := hmf.more
  have HT := Lib.hid (fun W => rbit_c m.more W)
  clear b0 hmf hm hl hf
  go_enter Tryz.func37, Tryz.ntmps37
  go_wp2_with fail
  refine (HT.out _).mono ?_
  rintro e w1 ⟨rfl, rfl⟩
  go_wp2_with fail
  go_ret
  exact ⟨rfl, C0.out⟩
set_option maxHeartbeats 4000000 in
set_option maxRecDepth 100000 in
theorem rfield_t (m : M) (L : Ls) (w : World) (hm : Nm m) (hl : IsL w m L) (hf : Wm.fit m .t = true) :
    Calls Tryz.prog 37 #[.agg (mcells m L), .int .u8 116] w fun e w' => e = .returned (S (Wm.fb m .t)) ∧ Chg (fun _ => False) w w' := by
  have b0 : IsM (w.alloc (.cells (mcells m L) 36)) w.heap.size m L := Blk.new w _ _
  have hmf := b0.mf hm.hd
  have C0 := Lib.hid ((Chg.refl (fun _ => False) w).alloc (.cells (mcells m L) 36))
  obtain ⟨A, cc, ex, hr⟩ := hl.t
  have u := hmf.t.trans (congrArg some ex)
  have HT := Lib.hid (rdigs_calls A cc m.trail _ (hr.chg C0.out (fun _ _ _ _ h => h)) hm.trail hm.nt)
  clear b0 hmf hm hl hf hr ex
  go_enter Tryz.func37, Tryz.ntmps37
  go_wp2_with fail
  refine HT.out.mono ?_
  rintro e w1 ⟨rfl, hc⟩
  go_wp2_with fail
  go_ret
  exact ⟨rfl, C0.out.trans hc⟩
set_option maxHeartbeats 4000000 in
set_option maxRecDepth 100000 in
theorem rfield_s (m : M) (L : Ls) (w : World) (hm : Nm m) (hl : IsL w m L) (hf : Wm.fit m .s = true) :
    Calls Tryz.prog 37 #[.agg (mcells m L), .int .u8 115] w fun e w' => e = .returned (S (Wm.fb m .s)) ∧ Chg (fun _ => False) w w' := by
  have b0 : IsM (w.alloc (.cells (mcells m L) 36)) w.heap.size m L := Blk.new w _ _
  have hmf := b0.mf hm.hd
  have C0 := Lib.hid ((Chg.refl (fun _ => False) w).alloc (.cells (mcells m L) 36))
  obtain ⟨A, cc, ex, hr⟩ := hl.s
  have u := hmf.s.trans (congrArg some ex)
  have HT := Lib.hid (rdigs_calls A cc m.since _ (hr.chg C0.out (fun _ _ _ _ h => h)) hm.since hm.ns)
  clear b0 hmf hm hl hf hr ex
  go_enter Tryz.func37, Tryz.ntmps37
  go_wp2_with fail
  refine HT.out.mono ?_
  rintro e w1 ⟨rfl, hc⟩
  go_wp2_with fail
  go_ret
  exact ⟨rfl, C0.out.trans hc⟩
theorem mkH {w : World} {g : Nat} {m : M} {L : Ls} (hd : Dg m) (h : IsM w g m L) : IsM w g m L ∧ w.cell? ⟨g, 11, none⟩ = some (.int .u64 m.hsize) ∧ w.rangeAt g 12 (bys m.hlog) :=
  ⟨h, (h.mf hd).hsize, (h.mf hd).hlog⟩
theorem mkE {w : World} {g : Nat} {m : M} {L : Ls} (hd : Dg m) (h : IsM w g m L) : IsM w g m L ∧ w.cell? ⟨g, 44, none⟩ = some (.int .u64 m.ever) ∧ w.cell? ⟨g, 77, none⟩ = some (.int .u64 m.ecnt) ∧ w.cell? ⟨g, 78, none⟩ = some (S m.enote) ∧ w.rangeAt g 45 (bys m.esum) :=
  ⟨h, (h.mf hd).ever, (h.mf hd).ecnt, (h.mf hd).enote, (h.mf hd).esum⟩
set_option maxHeartbeats 4000000 in
set_option maxRecDepth 100000 in
theorem rfield_H (m : M) (L : Ls) (w : World) (hm : Nm m) (hl : IsL w m L) (hf : Wm.fit m .H = true) :
    Calls Tryz.prog 37 #[.agg (mcells m L), .int .u8 72] w fun e w' => e = .returned (S (Wm.fb m .H)) ∧ Chg (fun _ => False) w w' := by
  have b0 : IsM (w.alloc (.cells (mcells m L) 36)) w.heap.size m L := Blk.new w _ _
  have hmf := b0.mf hm.hd
  have C0 := Lib.hid ((Chg.refl (fun _ => False) w).alloc (.cells (mcells m L) 36))
  have HF := Lib.hid (fun W => ref_freeI (m.hsize : Int) m.hsize rfl hm.hsize W)
  have HD := Lib.hid (fun W => ref_digest 32 m.hlog W hm.hd.h)
  have Hd := Lib.hid hm.hd
  have B0 := Lib.hid b0
  have hfl := free10 m.hsize hm.hsize
  have h32 := hm.hd.h
  have htk : m.hlog.take (wd 32) = m.hlog := by rw [wd32, List.take_of_length_le (by omega)]
  rw [htk] at HD
  have hadd := fun w => add_S (Pk.free m.hsize) m.hlog (by omega) w
  have hu := under_digest
  have hsz : (Tryz.prog.info? 27).map (·.size) = some (bys m.hlog).length := by rw [bys_length, h32]; exact info_digest
  clear b0 hmf hm hl hf hfl h32 htk
  go_enter Tryz.func37, Tryz.ntmps37
  go_upto_region 21 with fail
  generalize (w.alloc (.cells (mcells m L) 36)) = w0 at *
  go_region_held3 (fun w' => IsM w' w.heap.size m L ∧ w'.cell? ⟨w.heap.size, 11, none⟩ = some (.int .u64 m.hsize) ∧ w'.rangeAt w.heap.size 12 (bys m.hlog))
    (first | exact mkH Hd.out (IsM.chg (And.left (by assumption)) hc (fun h => h)) | exact mkH Hd.out B0.out.drew | go_keep)
    (first
      | (go_at_call 66; refine (HF.out _).mono ?_; rintro e w' ⟨rfl, hc⟩)
      | (go_at_call 68; refine (HD.out _).mono ?_; rintro e w' ⟨rfl, hc⟩))
  rename_i wa ca hH
  have ce := ((C0.out.drew).trans ca).trans hc
  clear hH ca hc hadd
  go_wp2_with fail
  go_ret
  exact ⟨ret_S rfl, ce⟩
set_option maxHeartbeats 4000000 in
set_option maxRecDepth 100000 in
theorem rfield_E (m : M) (L : Ls) (w : World) (hm : Nm m) (hl : IsL w m L) (hf : Wm.fit m .E = true) :
    Calls Tryz.prog 37 #[.agg (mcells m L), .int .u8 69] w fun e w' => e = .returned (S (Wm.fb m .E)) ∧ Chg (fun _ => False) w w' := by
  have b0 : IsM (w.alloc (.cells (mcells m L) 36)) w.heap.size m L := Blk.new w _ _
  have hmf := b0.mf hm.hd
  have C0 := Lib.hid ((Chg.refl (fun _ => False) w).alloc (.cells (mcells m L) 36))
  have HF1 := Lib.hid (fun W => ref_freeI (m.ever : Int) m.ever rfl hm.ever W)
  have HF2 := Lib.hid (fun W => ref_freeI (m.ecnt : Int) m.ecnt rfl hm.ecnt W)
  have HD := Lib.hid (fun W => ref_digest 32 m.esum W hm.hd.e)
  have hen : m.enote.length ≤ 32 := by simpa [Wm.fit] using hf
  have HT := Lib.hid (fun W => ref_text m.enote (by omega) W)
  have Hd := Lib.hid hm.hd
  have B0 := Lib.hid b0
  have hfl1 := free10 m.ever hm.ever
  have hfl2 := free10 m.ecnt hm.ecnt
  have hfl3 := free10 m.enote.length (by omega)
  have h32 := hm.hd.e
  have htl : (Pk.text m.enote).length ≤ 42 := by unfold Pk.text; rw [List.length_append]; omega
  have htk : m.esum.take (wd 32) = m.esum := by rw [wd32, List.take_of_length_le (by omega)]
  rw [htk] at HD
  have ha1 := fun w => add_S (Pk.free m.ever) (Pk.free m.ecnt) (by omega) w
  have ha2 := fun w => add_S (Pk.free m.ever ++ Pk.free m.ecnt) m.esum (by rw [List.length_append]; omega) w
  have ha3 := fun w => add_S (Pk.free m.ever ++ (Pk.free m.ecnt ++ m.esum)) (Pk.text m.enote) (by rw [List.length_append, List.length_append]; omega) w
  have hu := under_digest
  have hsz : (Tryz.prog.info? 27).map (·.size) = some (bys m.esum).length := by rw [bys_length, h32]; exact info_digest
  clear b0 hmf hm hl hf hfl1 hfl2 hfl3 h32 htk htl hen
  go_enter Tryz.func37, Tryz.ntmps37
  go_upto_region 23 with fail
  generalize (w.alloc (.cells (mcells m L) 36)) = w0 at *
  go_region_held3 (fun w' => IsM w' w.heap.size m L ∧ w'.cell? ⟨w.heap.size, 44, none⟩ = some (.int .u64 m.ever) ∧ w'.cell? ⟨w.heap.size, 77, none⟩ = some (.int .u64 m.ecnt) ∧ w'.cell? ⟨w.heap.size, 78, none⟩ = some (S m.enote) ∧ w'.rangeAt w.heap.size 45 (bys m.esum))
    (first | exact mkE Hd.out (IsM.chg (And.left (by assumption)) hc (fun h => h)) | exact mkE Hd.out B0.out.drew | go_keep)
    (first
      | ((go_at_call 66; with_reducible refine (HF1.out _).mono ?_); rintro e w' ⟨rfl, hc⟩)
      | ((go_at_call 66; with_reducible refine (HF2.out _).mono ?_); rintro e w' ⟨rfl, hc⟩)
      | (go_at_call 65; refine (HT.out _).mono ?_; rintro e w' ⟨rfl, hc⟩)
      | (go_at_call 68; refine (HD.out _).mono ?_; rintro e w' ⟨rfl, hc⟩))
  rename_i wa ca wb cb wc cc hH
  have ce := ((((C0.out.drew).trans ca).trans cb).trans cc).trans hc
  clear hH ca cb cc hc ha1 ha2 ha3
  go_wp2_with fail
  go_ret
  exact ⟨ret_S (by show _ = Pk.free m.ever ++ (Pk.free m.ecnt ++ (m.esum ++ Pk.text m.enote)); simp only [List.append_assoc]), ce⟩
theorem keep3 {w w' : World} {p q r : Addr} {u v x : Value} (hc : Chg (fun _ => False) w w') (h : w.cell? p = some u ∧ w.cell? q = some v ∧ w.cell? r = some x) : w'.cell? p = some u ∧ w'.cell? q = some v ∧ w'.cell? r = some x :=
  ⟨keepC hc (fun h => h) h.1, keepC hc (fun h => h) h.2.1, keepC hc (fun h => h) h.2.2⟩
set_option maxHeartbeats 4000000 in
set_option maxRecDepth 100000 in
theorem rfield_P (m : M) (L : Ls) (w : World) (hm : Nm m) (hl : IsL w m L) (hf : Wm.fit m .P = true) :
    Calls Tryz.prog 37 #[.agg (mcells m L), .int .u8 80] w fun e w' => e = .returned (S (Wm.fb m .P)) ∧ Chg (fun _ => False) w w' := by
  have b0 : IsM (w.alloc (.cells (mcells m L) 36)) w.heap.size m L := Blk.new w _ _
  have hmf := b0.mf hm.hd
  have C0 := Lib.hid ((Chg.refl (fun _ => False) w).alloc (.cells (mcells m L) 36))
  have Hd := Lib.hid hm.hd
  have B0 := Lib.hid b0
  obtain ⟨A, cc, ex, hr⟩ := hl.p
  have hfit : m.pairs.length ≤ 256 ∧ ∀ p ∈ m.pairs, p.1.length ≤ 1024 ∧ p.2.length ≤ 1024 := by
    simpa [Wm.fit, Wm.short, List.all_eq_true] using hf
  obtain ⟨hn, hps⟩ := hfit
  have Hps := Lib.hid hps
  have u0 := hmf.p.trans (congrArg some ex)
  have Ex := Lib.hid ex
  have HF := Lib.hid (fun W => ref_free 9 m.pairs.length (by omega) (by unfold U64; omega) W)
  have hfl := free10 m.pairs.length (by omega)
  have Hfl := Lib.hid hfl
  have Hr := Lib.hid (hr.chg C0.out (fun _ _ _ _ h => h))
  clear b0 hmf hm hl hf hr ex hps hfl
  go_enter Tryz.func37, Tryz.ntmps37
  go_upto_region 29 with fail
  generalize (w.alloc (.cells (mcells m L) 36)) = w0 at *
  go_wp2_with fail
  refine (HF.out _).mono ?_
  rintro e w1 ⟨rfl, hc1⟩
  have C1 := Lib.hid hc1
  clear hc1 u0
  go_wp2_with fail
  go_loopw [5, 6] (fun sv iv wr => ∃ k : Nat, k ≤ m.pairs.length ∧ sv = S (Pk.free m.pairs.length ++ (m.pairs.take k).flatMap pairB) ∧ iv = .int .i64 k ∧ Chg (fun _ => False) w0 wr) (fun _ iv _ => m.pairs.length - (intOf iv).toNat)
  case atStart => exact ⟨0, by omega, by simp, rfl, C1.out⟩
  case round =>
    obtain ⟨k, hk, rfl, rfl, hc⟩ := hrel
    have hmf := (B0.out.chg hc (fun h => h)).mf Hd.out
    have u1 := hmf.p.trans (congrArg some Ex.out)
    clear hmf
    by_cases hp : k < m.pairs.length
    · obtain ⟨x, hx⟩ : ∃ x, m.pairs[k]? = some x := ⟨_, List.getElem?_eq_getElem hp⟩
      obtain ⟨b, off, rfl, hcell⟩ := RL.at_ (size := 2) (f := fun x : List UInt8 × List UInt8 => [S x.1, S x.2]) (fun x hm => rfl) (Hr.out.chg hc (fun _ _ _ _ h => h)) hx
      have d1 := hcell 0 _ rfl
      have d2 := hcell 1 _ rfl
      rw [Nat.add_zero] at d1
      obtain ⟨hl1, hl2⟩ := Hps.out x (List.mem_of_getElem? hx)
      have HT1 := Lib.hid (fun W => ref_text x.1 (by omega) W)
      have HT2 := Lib.hid (fun W => ref_text x.2 (by omega) W)
      have ht1 : (Pk.text x.1).length ≤ 1034 := by have := free10 x.1.length (by omega); unfold Pk.text; rw [List.length_append]; omega
      have ht2 : (Pk.text x.2).length ≤ 1034 := by have := free10 x.2.length (by omega); unfold Pk.text; rw [List.length_append]; omega
      obtain ⟨tb, htb⟩ : ∃ tb, Pk.text x.1 ++ Pk.text x.2 = tb := ⟨_, rfl⟩
      have htl : tb.length ≤ 2068 := by rw [← htb, List.length_append]; omega
      have hle : ((m.pairs.take k).flatMap pairB).length ≤ 1048576 := by
        have := flat_len pairB 2068 (m.pairs.take k) (fun p hp => by
          obtain ⟨h1, h2⟩ := Hps.out p (List.mem_of_mem_take hp)
          have := free10 p.1.length (by omega)
          have := free10 p.2.length (by omega)
          unfold pairB; simp only [List.length_append]; omega)
        rw [List.length_take] at this
        have h2 : min k m.pairs.length * 2068 ≤ 256 * 2068 := Nat.mul_le_mul_right _ (by omega)
        omega
      have hsn : (m.pairs.take (k + 1)).flatMap pairB = (m.pairs.take k).flatMap pairB ++ tb := by
        rw [List.take_add_one, hx, ← htb]; simp [pairB, Pk.text]
      have Hsn := Lib.hid hsn
      obtain ⟨sa, hsa⟩ : ∃ sa, Pk.free m.pairs.length ++ (m.pairs.take k).flatMap pairB = sa := ⟨_, rfl⟩
      have hsl : sa.length ≤ 2000000 := by rw [← hsa, List.length_append]; have := Hfl.out; omega
      rw [hsa]
      have ha1 := fun w => add_S (Pk.text x.1) (Pk.text x.2) (by omega) w
      rw [htb] at ha1
      have ha2 := fun w => add_S sa tb (by omega) w
      have Hsa := Lib.hid hsa
      have Hc := Lib.hid hc
      clear hsn hsa htb hle hx hcell hc hl1 hl2 ht1 ht2 htl hsl
      go_upto_region 33 with fail
      go_region_held3 (fun w' => w'.cell? ⟨w.heap.size, 81, none⟩ = some (.slice (some ⟨b, off, none⟩) m.pairs.length cc) ∧ w'.cell? ⟨b, off + k * 2, none⟩ = some (S x.1) ∧ w'.cell? ⟨b, off + k * 2 + 1, none⟩ = some (S x.2))
        (first | exact keep3 hc (by assumption) | exact ⟨u1, d1, d2⟩ | go_keep)
        (first
          | ((go_at_call 65; with_reducible refine (HT1.out _).mono ?_); rintro e w' ⟨rfl, hc⟩)
          | ((go_at_call 65; with_reducible refine (HT2.out _).mono ?_); rintro e w' ⟨rfl, hc⟩))
      rename_i wa ca hH
      have ce := ((Hc.out.drew).trans ca).trans hc
      clear hH ca hc ha1 ha2
      go_wp2_with fail
      go_roundw
      case rel => exact ⟨k + 1, by omega, by rw [Hsn.out, ← List.append_assoc, Hsa.out], by go_num, ce⟩
      case measure => simp [intOf]; omega
    · obtain rfl : k = m.pairs.length := by omega
      go_wp2_with fail
      go_ret
      exact ⟨ret_S (by rw [List.take_length]; rfl), C0.out.trans hc⟩
set_option maxHeartbeats 4000000 in
set_option maxRecDepth 100000 in
theorem rfield_W (m : M) (L : Ls) (w : World) (hm : Nm m) (hl : IsL w m L) (hf : Wm.fit m .W = true) :
    Calls Tryz.prog 37 #[.agg (mcells m L), .int .u8 87] w fun e w' => e = .returned (S (Wm.fb m .W)) ∧ Chg (fun _ => False) w w' := by
  have b0 : IsM (w.alloc (.cells (mcells m L) 36)) w.heap.size m L := Blk.new w _ _
  have hmf := b0.mf hm.hd
  have C0 := Lib.hid ((Chg.refl (fun _ => False) w).alloc (.cells (mcells m L) 36))
  have Hd := Lib.hid hm.hd
  have B0 := Lib.hid b0
  obtain ⟨A, cc, ex, hr⟩ := hl.y
  have hfit : m.way.length ≤ 33 ∧ ∀ n ∈ m.way, 0 ≤ n ∧ n ≤ 65535 := by
    simpa [Wm.fit, List.all_eq_true] using hf
  obtain ⟨hn, hws⟩ := hfit
  have Hws := Lib.hid hws
  have u0 := hmf.y.trans (congrArg some ex)
  have Ex := Lib.hid ex
  have HF := Lib.hid (fun W => ref_free 9 m.way.length (by omega) (by unfold U64; omega) W)
  have hfl := free10 m.way.length (by omega)
  have Hfl := Lib.hid hfl
  have Hr := Lib.hid (hr.chg C0.out (fun _ _ _ _ h => h))
  clear b0 hmf hm hl hf hr ex hws hfl
  go_enter Tryz.func37, Tryz.ntmps37
  go_upto_region 36 with fail
  generalize (w.alloc (.cells (mcells m L) 36)) = w0 at *
  go_wp2_with fail
  refine (HF.out _).mono ?_
  rintro e w1 ⟨rfl, hc1⟩
  have C1 := Lib.hid hc1
  clear hc1 u0
  go_wp2_with fail
  go_loopw [7, 8] (fun sv iv wr => ∃ k : Nat, k ≤ m.way.length ∧ sv = S (Pk.free m.way.length ++ (m.way.take k).flatMap fun n => Pk.free n.toNat) ∧ iv = .int .i64 k ∧ Chg (fun _ => False) w0 wr) (fun _ iv _ => m.way.length - (intOf iv).toNat)
  case atStart => exact ⟨0, by omega, by simp, rfl, C1.out⟩
  case round =>
    obtain ⟨k, hk, rfl, rfl, hc⟩ := hrel
    have hmf := (B0.out.chg hc (fun h => h)).mf Hd.out
    have u1 := hmf.y.trans (congrArg some Ex.out)
    clear hmf
    by_cases hp : k < m.way.length
    · obtain ⟨x, hx⟩ : ∃ x, m.way[k]? = some x := ⟨_, List.getElem?_eq_getElem hp⟩
      obtain ⟨b, off, rfl, hcell⟩ := RL.at_ (size := 1) (f := fun x : Int => [Value.int .i64 x]) (fun x hm => rfl) (Hr.out.chg hc (fun _ _ _ _ h => h)) hx
      have d1 := hcell 0 _ rfl
      simp only [Nat.add_zero, Nat.mul_one] at d1
      obtain ⟨hl1, hl2⟩ := Hws.out x (List.mem_of_getElem? hx)
      obtain ⟨q, rfl⟩ : ∃ q : Nat, x = (q : Int) := ⟨x.toNat, by omega⟩
      have hq : q ≤ 65535 := by omega
      have hcv : IntKind.u64.wrap (q : Int) = (q : Int) := by rw [IntKind.wrap_u64]; omega
      have HT1 := Lib.hid (fun W => ref_freeI (q : Int) q rfl (by unfold U64; omega) W)
      have ht1 := free10 q (by omega)
      have hle : ((m.way.take k).flatMap fun n => Pk.free n.toNat).length ≤ 1048576 := by
        have := flat_len (fun n : Int => Pk.free n.toNat) 10 (m.way.take k) (fun p hp => by
          obtain ⟨h1, h2⟩ := Hws.out p (List.mem_of_mem_take hp)
          exact free10 p.toNat (by omega))
        rw [List.length_take] at this
        omega
      have hsn : ((m.way.take (k + 1)).flatMap fun n => Pk.free n.toNat) = ((m.way.take k).flatMap fun n => Pk.free n.toNat) ++ Pk.free q := by
        rw [List.take_add_one, hx]; simp
      have Hsn := Lib.hid hsn
      obtain ⟨sa, hsa⟩ : ∃ sa, (Pk.free m.way.length ++ (m.way.take k).flatMap fun n => Pk.free n.toNat) = sa := ⟨_, rfl⟩
      have hsl : sa.length ≤ 2000000 := by rw [← hsa, List.length_append]; have := Hfl.out; omega
      rw [hsa]
      have ha2 := fun w => add_S sa (Pk.free q) (by omega) w
      have Hsa := Lib.hid hsa
      have Hc := Lib.hid hc
      clear hsn hsa hle hx hcell hc hl1 hl2 ht1 hsl
      go_wp2_with fail
      refine (HT1.out _).mono ?_
      rintro e w2 ⟨rfl, hc2⟩
      go_wp2_with fail
      go_roundw
      case rel => exact ⟨k + 1, by omega, by rw [Hsn.out, ← List.append_assoc, Hsa.out], by go_num, Hc.out.trans hc2⟩
      case measure => simp [intOf]; omega
    · obtain rfl : k = m.way.length := by omega
      go_wp2_with fail
      go_ret
      exact ⟨ret_S (by rw [List.take_length]; rfl), C0.out.trans hc⟩
theorem rfield_calls (c : Wm.Fd) (m : M) (L : Ls) (w : World) (hm : Nm m) (hl : IsL w m L) (hf : Wm.fit m c = true) :
    Calls Tryz.prog 37 #[.agg (mcells m L), .int .u8 (letr c).toNat] w fun e w' => e = .returned (S (Wm.fb m c)) ∧ Chg (fun _ => False) w w' := by
  cases c
  case K => exact rfield_K m L w hm hl hf
  case T => exact rfield_T m L w hm hl hf
  case V => exact rfield_V m L w hm hl hf
  case L => exact rfield_L m L w hm hl hf
  case F => exact rfield_F m L w hm hl hf
  case S => exact rfield_S m L w hm hl hf
  case f => exact rfield_f m L w hm hl hf
  case m => exact rfield_m m L w hm hl hf
  case C => exact rfield_C m L w hm hl hf
  case H => exact rfield_H m L w hm hl hf
  case E => exact rfield_E m L w hm hl hf
  case t => exact rfield_t m L w hm hl hf
  case s => exact rfield_s m L w hm hl hf
  case P => exact rfield_P m L w hm hl hf
  case W => exact rfield_W m L w hm hl hf
  case B => exact rfield_B m L w hm hl hf
end Go.Proofs.YthkfcfkkamffpaaGreat
