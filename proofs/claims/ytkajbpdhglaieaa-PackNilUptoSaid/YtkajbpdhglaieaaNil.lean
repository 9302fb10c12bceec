/-
  pack's functions with no writer and no reader. Printed by gen_nil.py.
-/
import Derived.Test.YtkajbpdhglaieaaEqd
import Derived.Test.YtkajbpdhglaieaaRdig
import Derived.Test.YtkajbpdhglaieaaStep
namespace Go.Proofs.Ytkajbpdhglaieaa
open Go.RowKit
set_option linter.unusedVariables false

set_option maxHeartbeats 1000000 in
set_option maxRecDepth 100000 in
theorem put_nil_uint8 (x : Int) (w : World) : Calls Try.prog 48 #[.pointer none, .int .u8 x] w fun e w' => e = .returned (.tuple #[]) ∧ w = w' := by
  go_enter Try.func48, Try.ntmps48
  go_wp2_with fail
  refine bodyPost_ret (results_none rfl _ _ _) rfl ?_
  exact ⟨rfl, rfl⟩

set_option maxHeartbeats 1000000 in
set_option maxRecDepth 100000 in
theorem put_nil_uint16 (x : Int) (w : World) : Calls Try.prog 42 #[.pointer none, .int .u16 x] w fun e w' => e = .returned (.tuple #[]) ∧ w = w' := by
  go_enter Try.func42, Try.ntmps42
  go_wp2_with fail
  refine bodyPost_ret (results_none rfl _ _ _) rfl ?_
  exact ⟨rfl, rfl⟩

set_option maxHeartbeats 1000000 in
set_option maxRecDepth 100000 in
theorem put_nil_uint32 (x : Int) (w : World) : Calls Try.prog 49 #[.pointer none, .int .u32 x] w fun e w' => e = .returned (.tuple #[]) ∧ w = w' := by
  go_enter Try.func49, Try.ntmps49
  go_wp2_with fail
  refine bodyPost_ret (results_none rfl _ _ _) rfl ?_
  exact ⟨rfl, rfl⟩

set_option maxHeartbeats 1000000 in
set_option maxRecDepth 100000 in
theorem put_nil_uint64 (x : Int) (w : World) : Calls Try.prog 50 #[.pointer none, .int .u64 x] w fun e w' => e = .returned (.tuple #[]) ∧ w = w' := by
  go_enter Try.func50, Try.ntmps50
  go_wp2_with fail
  refine bodyPost_ret (results_none rfl _ _ _) rfl ?_
  exact ⟨rfl, rfl⟩

set_option maxHeartbeats 1000000 in
set_option maxRecDepth 100000 in
theorem put_nil_int8 (x : Int) (w : World) : Calls Try.prog 51 #[.pointer none, .int .i8 x] w fun e w' => e = .returned (.tuple #[]) ∧ w = w' := by
  go_enter Try.func51, Try.ntmps51
  go_wp2_with fail
  refine bodyPost_ret (results_none rfl _ _ _) rfl ?_
  exact ⟨rfl, rfl⟩

set_option maxHeartbeats 1000000 in
set_option maxRecDepth 100000 in
theorem put_nil_int16 (x : Int) (w : World) : Calls Try.prog 52 #[.pointer none, .int .i16 x] w fun e w' => e = .returned (.tuple #[]) ∧ w = w' := by
  go_enter Try.func52, Try.ntmps52
  go_wp2_with fail
  refine bodyPost_ret (results_none rfl _ _ _) rfl ?_
  exact ⟨rfl, rfl⟩

set_option maxHeartbeats 1000000 in
set_option maxRecDepth 100000 in
theorem put_nil_int32 (x : Int) (w : World) : Calls Try.prog 53 #[.pointer none, .int .i32 x] w fun e w' => e = .returned (.tuple #[]) ∧ w = w' := by
  go_enter Try.func53, Try.ntmps53
  go_wp2_with fail
  refine bodyPost_ret (results_none rfl _ _ _) rfl ?_
  exact ⟨rfl, rfl⟩

set_option maxHeartbeats 1000000 in
set_option maxRecDepth 100000 in
theorem put_nil_int64 (x : Int) (w : World) : Calls Try.prog 54 #[.pointer none, .int .i64 x] w fun e w' => e = .returned (.tuple #[]) ∧ w = w' := by
  go_enter Try.func54, Try.ntmps54
  go_wp2_with fail
  refine bodyPost_ret (results_none rfl _ _ _) rfl ?_
  exact ⟨rfl, rfl⟩

set_option maxHeartbeats 1000000 in
set_option maxRecDepth 100000 in
theorem put_nil_shade (x : Int) (w : World) : Calls Try.prog 55 #[.pointer none, .int .u16 x] w fun e w' => e = .returned (.tuple #[]) ∧ w = w' := by
  go_enter Try.func55, Try.ntmps55
  go_wp2_with fail
  refine bodyPost_ret (results_none rfl _ _ _) rfl ?_
  exact ⟨rfl, rfl⟩

set_option maxHeartbeats 1000000 in
set_option maxRecDepth 100000 in
theorem free_nil (x : Int) (w : World) : Calls Try.prog 12 #[.pointer none, .int .u64 x] w fun e w' => e = .returned (.tuple #[]) ∧ w = w' := by
  go_enter Try.func12, Try.ntmps12
  go_wp2_with fail
  refine bodyPost_ret (results_none rfl _ _ _) rfl ?_
  exact ⟨rfl, rfl⟩

set_option maxHeartbeats 1000000 in
set_option maxRecDepth 100000 in
theorem raw_nil (A : Option Addr) (n c : Nat) (w : World) : Calls Try.prog 46 #[.pointer none, .slice A n c] w fun e w' => e = .returned (.tuple #[]) ∧ w = w' := by
  go_enter Try.func46, Try.ntmps46
  go_wp2_with fail
  refine bodyPost_ret (results_none rfl _ _ _) rfl ?_
  exact ⟨rfl, rfl⟩

set_option maxHeartbeats 1000000 in
set_option maxRecDepth 100000 in
theorem eachw_nil_uint64 (A : Option Addr) (n c : Nat) (f : Value) (w : World) : Calls Try.prog 26 #[.pointer none, .slice A n c, f] w fun e w' => e = .returned (.tuple #[]) ∧ w = w' := by
  go_enter Try.func26, Try.ntmps26
  go_wp2_with fail
  refine bodyPost_ret (results_none rfl _ _ _) rfl ?_
  exact ⟨rfl, rfl⟩

set_option maxHeartbeats 1000000 in
set_option maxRecDepth 100000 in
theorem eachw_nil_string (A : Option Addr) (n c : Nat) (f : Value) (w : World) : Calls Try.prog 47 #[.pointer none, .slice A n c, f] w fun e w' => e = .returned (.tuple #[]) ∧ w = w' := by
  go_enter Try.func47, Try.ntmps47
  go_wp2_with fail
  refine bodyPost_ret (results_none rfl _ _ _) rfl ?_
  exact ⟨rfl, rfl⟩

set_option maxHeartbeats 1000000 in
set_option maxRecDepth 100000 in
theorem len_nil (w : World) : Calls Try.prog 20 #[.pointer none] w fun e w' => e = .returned (.int .i64 0) ∧ w = w' := by
  go_enter Try.func20, Try.ntmps20
  go_wp2_with fail
  go_ret
  exact ⟨rfl, rfl⟩

set_option maxHeartbeats 1000000 in
set_option maxRecDepth 100000 in
theorem string_nil (w : World) : Calls Try.prog 16 #[.pointer none] w fun e w' => e = .returned (S []) ∧ w = w' := by
  go_enter Try.func16, Try.ntmps16
  go_wp2_with fail
  go_ret
  exact ⟨rfl, rfl⟩

set_option maxHeartbeats 1000000 in
set_option maxRecDepth 100000 in
theorem signed_nil (x : Int) (w : World) : Calls Try.prog 43 #[.pointer none, .int .i64 x] w fun e w' => e = .returned (.tuple #[]) ∧ w = w' := by
  go_enter Try.func43, Try.ntmps43
  go_wp2_with (go_at_call 12; refine (free_nil _ _).mono ?_; rintro e w' ⟨rfl, rfl⟩)
  go_end0
  exact ⟨rfl, rfl⟩

set_option maxHeartbeats 1000000 in
set_option maxRecDepth 100000 in
theorem text_nil (l : List UInt8) (w : World) : Calls Try.prog 13 #[.pointer none, S l] w fun e w' => e = .returned (.tuple #[]) ∧ Chg (fun _ => False) w w' := by
  go_enter Try.func13, Try.ntmps13
  go_wp2_with (first | (go_at_call 12; refine (free_nil _ _).mono ?_; rintro e w' ⟨rfl, rfl⟩) | (go_at_call 46; refine (raw_nil _ _ _ _).mono ?_; rintro e w' ⟨rfl, rfl⟩))
  go_end0
  exact ⟨rfl, (Chg.refl _ w).alloc _⟩

set_option maxHeartbeats 1000000 in
set_option maxRecDepth 100000 in
theorem wdigest_nil (n : Int) (d : List UInt8) (w : World) (hd : d.length = 32) : Calls Try.prog 56 #[.pointer none, .int .i64 n, .agg (bys d).toArray] w fun e w' => e = .returned (.tuple #[]) ∧ Chg (fun _ => False) w w' := by
  have hw := wd_le n
  have Hd := Lib.hid hd
  clear hd
  have hcv : (convert 76 9 (.slice (some ⟨w.heap.size, 0, none⟩) (wd n) 32)).run Try.prog (w.alloc (.cells (bys d).toArray 65)) = .ok (S (d.take (wd n))) (w.alloc (.cells (bys d).toArray 65)) := by
    have hl : (d.take (wd n)).length = wd n := by rw [List.length_take, Hd.out]; omega
    have := run_convert_bytes_back (P := Try.prog) (w.alloc (.cells (bys d).toArray 65)) 76 9 5 ⟨w.heap.size, 0, none⟩ 32 (d.take (wd n)) Try.underlying76 Try.underlying5 Try.underlying9 (fun j hj => by
      have hadd : (⟨w.heap.size, 0, none⟩ : Addr).add j = ⟨w.heap.size, j, none⟩ := by unfold Addr.add; split <;> simp_all
      rw [hadd, (Blk.new w _ (bys d).toArray).cell]
      simp [bys]
      have : j < d.length := by rw [Hd.out]; omega
      rw [List.getElem?_eq_getElem this]
      simp)
    rw [hl] at this
    exact this
  have hsl := fun w' => slice_dig w.heap.size (wd n) hw w'
  go_enter Try.func56, Try.ntmps56
  go_wp2_with (first | (go_at_call 80; refine (into_calls _ _).mono ?_; rintro e w' ⟨rfl, rfl⟩) | (go_at_call 46; refine (raw_nil _ _ _ _).mono ?_; rintro e w' ⟨rfl, rfl⟩))
  go_end0
  exact ⟨rfl, ((Chg.refl _ w).alloc _).alloc _⟩

set_option maxHeartbeats 1000000 in
set_option maxRecDepth 100000 in
theorem layn_0 (x : St) (w : World) (hx : x.Ok w) (hk : Hid (x.kind = 0)) : Calls Try.prog 18 #[.pointer none, .agg x.cells] w fun e w' => e = .returned (.tuple #[]) ∧ Chg (fun _ => False) w w' := by
  obtain ⟨kind, n, i, s, A, an, ac, parts, B, bn, bc, ns, width, most, bound⟩ := x
  obtain ⟨hn, hi, hkk, hwd, hmo, hbo, hA, hB, hns, hrm⟩ := hx
  unfold St.cells
  dsimp only at *
  clear hA hB hns
  obtain ⟨rfl⟩ := hk
  go_enter Try.func18, Try.ntmps18
  go_wp2_with fail
  refine (put_nil_uint8 _ _).mono ?_
  rintro e w' ⟨rfl, rfl⟩
  go_wp2_with fail
  go_end0
  exact ⟨rfl, (Chg.refl _ w).alloc _⟩

set_option maxHeartbeats 1000000 in
set_option maxRecDepth 100000 in
theorem layn_1 (x : St) (w : World) (hx : x.Ok w) (hk : Hid (x.kind = 1)) : Calls Try.prog 18 #[.pointer none, .agg x.cells] w fun e w' => e = .returned (.tuple #[]) ∧ Chg (fun _ => False) w w' := by
  obtain ⟨kind, n, i, s, A, an, ac, parts, B, bn, bc, ns, width, most, bound⟩ := x
  obtain ⟨hn, hi, hkk, hwd, hmo, hbo, hA, hB, hns, hrm⟩ := hx
  unfold St.cells
  dsimp only at *
  clear hA hB hns
  obtain ⟨rfl⟩ := hk
  go_enter Try.func18, Try.ntmps18
  go_wp2_with fail
  refine (put_nil_uint16 _ _).mono ?_
  rintro e w' ⟨rfl, rfl⟩
  go_wp2_with fail
  go_end0
  exact ⟨rfl, (Chg.refl _ w).alloc _⟩

set_option maxHeartbeats 1000000 in
set_option maxRecDepth 100000 in
theorem layn_2 (x : St) (w : World) (hx : x.Ok w) (hk : Hid (x.kind = 2)) : Calls Try.prog 18 #[.pointer none, .agg x.cells] w fun e w' => e = .returned (.tuple #[]) ∧ Chg (fun _ => False) w w' := by
  obtain ⟨kind, n, i, s, A, an, ac, parts, B, bn, bc, ns, width, most, bound⟩ := x
  obtain ⟨hn, hi, hkk, hwd, hmo, hbo, hA, hB, hns, hrm⟩ := hx
  unfold St.cells
  dsimp only at *
  clear hA hB hns
  obtain ⟨rfl⟩ := hk
  go_enter Try.func18, Try.ntmps18
  go_wp2_with fail
  refine (put_nil_uint32 _ _).mono ?_
  rintro e w' ⟨rfl, rfl⟩
  go_wp2_with fail
  go_end0
  exact ⟨rfl, (Chg.refl _ w).alloc _⟩

set_option maxHeartbeats 1000000 in
set_option maxRecDepth 100000 in
theorem layn_3 (x : St) (w : World) (hx : x.Ok w) (hk : Hid (x.kind = 3)) : Calls Try.prog 18 #[.pointer none, .agg x.cells] w fun e w' => e = .returned (.tuple #[]) ∧ Chg (fun _ => False) w w' := by
  obtain ⟨kind, n, i, s, A, an, ac, parts, B, bn, bc, ns, width, most, bound⟩ := x
  obtain ⟨hn, hi, hkk, hwd, hmo, hbo, hA, hB, hns, hrm⟩ := hx
  unfold St.cells
  dsimp only at *
  clear hA hB hns
  obtain ⟨rfl⟩ := hk
  go_enter Try.func18, Try.ntmps18
  go_wp2_with fail
  refine (put_nil_uint64 _ _).mono ?_
  rintro e w' ⟨rfl, rfl⟩
  go_wp2_with fail
  go_end0
  exact ⟨rfl, (Chg.refl _ w).alloc _⟩

set_option maxHeartbeats 1000000 in
set_option maxRecDepth 100000 in
theorem layn_4 (x : St) (w : World) (hx : x.Ok w) (hk : Hid (x.kind = 4)) : Calls Try.prog 18 #[.pointer none, .agg x.cells] w fun e w' => e = .returned (.tuple #[]) ∧ Chg (fun _ => False) w w' := by
  obtain ⟨kind, n, i, s, A, an, ac, parts, B, bn, bc, ns, width, most, bound⟩ := x
  obtain ⟨hn, hi, hkk, hwd, hmo, hbo, hA, hB, hns, hrm⟩ := hx
  unfold St.cells
  dsimp only at *
  clear hA hB hns
  obtain ⟨rfl⟩ := hk
  go_enter Try.func18, Try.ntmps18
  go_wp2_with fail
  refine (put_nil_int8 _ _).mono ?_
  rintro e w' ⟨rfl, rfl⟩
  go_wp2_with fail
  go_end0
  exact ⟨rfl, (Chg.refl _ w).alloc _⟩

set_option maxHeartbeats 1000000 in
set_option maxRecDepth 100000 in
theorem layn_5 (x : St) (w : World) (hx : x.Ok w) (hk : Hid (x.kind = 5)) : Calls Try.prog 18 #[.pointer none, .agg x.cells] w fun e w' => e = .returned (.tuple #[]) ∧ Chg (fun _ => False) w w' := by
  obtain ⟨kind, n, i, s, A, an, ac, parts, B, bn, bc, ns, width, most, bound⟩ := x
  obtain ⟨hn, hi, hkk, hwd, hmo, hbo, hA, hB, hns, hrm⟩ := hx
  unfold St.cells
  dsimp only at *
  clear hA hB hns
  obtain ⟨rfl⟩ := hk
  go_enter Try.func18, Try.ntmps18
  go_wp2_with fail
  refine (put_nil_int16 _ _).mono ?_
  rintro e w' ⟨rfl, rfl⟩
  go_wp2_with fail
  go_end0
  exact ⟨rfl, (Chg.refl _ w).alloc _⟩

set_option maxHeartbeats 1000000 in
set_option maxRecDepth 100000 in
theorem layn_6 (x : St) (w : World) (hx : x.Ok w) (hk : Hid (x.kind = 6)) : Calls Try.prog 18 #[.pointer none, .agg x.cells] w fun e w' => e = .returned (.tuple #[]) ∧ Chg (fun _ => False) w w' := by
  obtain ⟨kind, n, i, s, A, an, ac, parts, B, bn, bc, ns, width, most, bound⟩ := x
  obtain ⟨hn, hi, hkk, hwd, hmo, hbo, hA, hB, hns, hrm⟩ := hx
  unfold St.cells
  dsimp only at *
  clear hA hB hns
  obtain ⟨rfl⟩ := hk
  go_enter Try.func18, Try.ntmps18
  go_wp2_with fail
  refine (put_nil_int32 _ _).mono ?_
  rintro e w' ⟨rfl, rfl⟩
  go_wp2_with fail
  go_end0
  exact ⟨rfl, (Chg.refl _ w).alloc _⟩

set_option maxHeartbeats 1000000 in
set_option maxRecDepth 100000 in
theorem layn_7 (x : St) (w : World) (hx : x.Ok w) (hk : Hid (x.kind = 7)) : Calls Try.prog 18 #[.pointer none, .agg x.cells] w fun e w' => e = .returned (.tuple #[]) ∧ Chg (fun _ => False) w w' := by
  obtain ⟨kind, n, i, s, A, an, ac, parts, B, bn, bc, ns, width, most, bound⟩ := x
  obtain ⟨hn, hi, hkk, hwd, hmo, hbo, hA, hB, hns, hrm⟩ := hx
  unfold St.cells
  dsimp only at *
  clear hA hB hns
  obtain ⟨rfl⟩ := hk
  go_enter Try.func18, Try.ntmps18
  go_wp2_with fail
  refine (put_nil_int64 _ _).mono ?_
  rintro e w' ⟨rfl, rfl⟩
  go_wp2_with fail
  go_end0
  exact ⟨rfl, (Chg.refl _ w).alloc _⟩

set_option maxHeartbeats 1000000 in
set_option maxRecDepth 100000 in
theorem layn_8 (x : St) (w : World) (hx : x.Ok w) (hk : Hid (x.kind = 8)) : Calls Try.prog 18 #[.pointer none, .agg x.cells] w fun e w' => e = .returned (.tuple #[]) ∧ Chg (fun _ => False) w w' := by
  obtain ⟨kind, n, i, s, A, an, ac, parts, B, bn, bc, ns, width, most, bound⟩ := x
  obtain ⟨hn, hi, hkk, hwd, hmo, hbo, hA, hB, hns, hrm⟩ := hx
  unfold St.cells
  dsimp only at *
  clear hA hB hns
  obtain ⟨rfl⟩ := hk
  go_enter Try.func18, Try.ntmps18
  go_wp2_with fail
  refine (put_nil_shade _ _).mono ?_
  rintro e w' ⟨rfl, rfl⟩
  go_wp2_with fail
  go_end0
  exact ⟨rfl, (Chg.refl _ w).alloc _⟩

set_option maxHeartbeats 1000000 in
set_option maxRecDepth 100000 in
theorem layn_9 (x : St) (w : World) (hx : x.Ok w) (hk : Hid (x.kind = 9)) : Calls Try.prog 18 #[.pointer none, .agg x.cells] w fun e w' => e = .returned (.tuple #[]) ∧ Chg (fun _ => False) w w' := by
  obtain ⟨kind, n, i, s, A, an, ac, parts, B, bn, bc, ns, width, most, bound⟩ := x
  obtain ⟨hn, hi, hkk, hwd, hmo, hbo, hA, hB, hns, hrm⟩ := hx
  unfold St.cells
  dsimp only at *
  clear hA hB hns
  obtain ⟨rfl⟩ := hk
  go_enter Try.func18, Try.ntmps18
  go_wp2_with fail
  refine (free_nil _ _).mono ?_
  rintro e w' ⟨rfl, rfl⟩
  go_wp2_with fail
  go_end0
  exact ⟨rfl, (Chg.refl _ w).alloc _⟩

set_option maxHeartbeats 1000000 in
set_option maxRecDepth 100000 in
theorem layn_10 (x : St) (w : World) (hx : x.Ok w) (hk : Hid (x.kind = 10)) : Calls Try.prog 18 #[.pointer none, .agg x.cells] w fun e w' => e = .returned (.tuple #[]) ∧ Chg (fun _ => False) w w' := by
  obtain ⟨kind, n, i, s, A, an, ac, parts, B, bn, bc, ns, width, most, bound⟩ := x
  obtain ⟨hn, hi, hkk, hwd, hmo, hbo, hA, hB, hns, hrm⟩ := hx
  unfold St.cells
  dsimp only at *
  clear hA hB hns
  obtain ⟨rfl⟩ := hk
  go_enter Try.func18, Try.ntmps18
  go_wp2_with fail
  refine (signed_nil _ _).mono ?_
  rintro e w' ⟨rfl, rfl⟩
  go_wp2_with fail
  go_end0
  exact ⟨rfl, (Chg.refl _ w).alloc _⟩

set_option maxHeartbeats 1000000 in
set_option maxRecDepth 100000 in
theorem layn_11 (x : St) (w : World) (hx : x.Ok w) (hk : Hid (x.kind = 11)) : Calls Try.prog 18 #[.pointer none, .agg x.cells] w fun e w' => e = .returned (.tuple #[]) ∧ Chg (fun _ => False) w w' := by
  obtain ⟨kind, n, i, s, A, an, ac, parts, B, bn, bc, ns, width, most, bound⟩ := x
  obtain ⟨hn, hi, hkk, hwd, hmo, hbo, hA, hB, hns, hrm⟩ := hx
  unfold St.cells
  dsimp only at *
  clear hA hB hns
  obtain ⟨rfl⟩ := hk
  go_enter Try.func18, Try.ntmps18
  go_wp2_with fail
  refine (raw_nil _ _ _ _).mono ?_
  rintro e w' ⟨rfl, rfl⟩
  go_wp2_with fail
  go_end0
  exact ⟨rfl, (Chg.refl _ w).alloc _⟩

set_option maxHeartbeats 1000000 in
set_option maxRecDepth 100000 in
theorem layn_12 (x : St) (w : World) (hx : x.Ok w) (hk : Hid (x.kind = 12)) : Calls Try.prog 18 #[.pointer none, .agg x.cells] w fun e w' => e = .returned (.tuple #[]) ∧ Chg (fun _ => False) w w' := by
  obtain ⟨kind, n, i, s, A, an, ac, parts, B, bn, bc, ns, width, most, bound⟩ := x
  obtain ⟨hn, hi, hkk, hwd, hmo, hbo, hA, hB, hns, hrm⟩ := hx
  unfold St.cells
  dsimp only at *
  clear hA hB hns
  obtain ⟨rfl⟩ := hk
  go_enter Try.func18, Try.ntmps18
  go_wp2_with fail
  refine (text_nil _ _).mono ?_
  rintro e w' ⟨rfl, hc⟩
  go_wp2_with fail
  go_end0
  exact ⟨rfl, ((Chg.refl _ w).alloc _).trans hc⟩

set_option maxHeartbeats 1000000 in
set_option maxRecDepth 100000 in
theorem layn_14 (x : St) (w : World) (hx : x.Ok w) (hk : Hid (x.kind = 14)) : Calls Try.prog 18 #[.pointer none, .agg x.cells] w fun e w' => e = .returned (.tuple #[]) ∧ Chg (fun _ => False) w w' := by
  obtain ⟨kind, n, i, s, A, an, ac, parts, B, bn, bc, ns, width, most, bound⟩ := x
  obtain ⟨hn, hi, hkk, hwd, hmo, hbo, hA, hB, hns, hrm⟩ := hx
  unfold St.cells
  dsimp only at *
  clear hA hB hns
  obtain ⟨rfl⟩ := hk
  go_enter Try.func18, Try.ntmps18
  go_wp2_with fail
  refine (eachw_nil_uint64 _ _ _ _ _).mono ?_
  rintro e w' ⟨rfl, rfl⟩
  go_wp2_with fail
  go_end0
  exact ⟨rfl, (Chg.refl _ w).alloc _⟩

set_option maxHeartbeats 1000000 in
set_option maxRecDepth 100000 in
theorem layn_15 (x : St) (w : World) (hx : x.Ok w) (hk : Hid (x.kind = 15)) : Calls Try.prog 18 #[.pointer none, .agg x.cells] w fun e w' => e = .returned (.tuple #[]) ∧ Chg (fun _ => False) w w' := by
  obtain ⟨kind, n, i, s, A, an, ac, parts, B, bn, bc, ns, width, most, bound⟩ := x
  obtain ⟨hn, hi, hkk, hwd, hmo, hbo, hA, hB, hns, hrm⟩ := hx
  unfold St.cells
  dsimp only at *
  clear hA hB hns
  obtain ⟨rfl⟩ := hk
  go_enter Try.func18, Try.ntmps18
  go_wp2_with fail
  refine (eachw_nil_string _ _ _ _ _).mono ?_
  rintro e w' ⟨rfl, rfl⟩
  go_wp2_with fail
  go_end0
  exact ⟨rfl, (Chg.refl _ w).alloc _⟩

set_option maxHeartbeats 1000000 in
set_option maxRecDepth 100000 in
theorem layn_16 (x : St) (w : World) (hx : x.Ok w) (hk : Hid (x.kind = 16)) : Calls Try.prog 18 #[.pointer none, .agg x.cells] w fun e w' => e = .returned (.tuple #[]) ∧ Chg (fun _ => False) w w' := by
  obtain ⟨kind, n, i, s, A, an, ac, parts, B, bn, bc, ns, width, most, bound⟩ := x
  obtain ⟨hn, hi, hkk, hwd, hmo, hbo, hA, hB, hns, hrm⟩ := hx
  unfold St.cells
  dsimp only at *
  clear hA hB hns
  obtain ⟨rfl⟩ := hk
  go_enter Try.func18, Try.ntmps18
  go_wp2_with fail
  refine (eachw_nil_string _ _ _ _ _).mono ?_
  rintro e w' ⟨rfl, rfl⟩
  go_wp2_with fail
  go_end0
  exact ⟨rfl, (Chg.refl _ w).alloc _⟩

set_option maxHeartbeats 1000000 in
set_option maxRecDepth 100000 in
theorem layn_13 (x : St) (w : World) (hx : x.Ok w) (hk : Hid (x.kind = 13)) : Calls Try.prog 18 #[.pointer none, .agg x.cells] w fun e w' => e = .returned (.tuple #[]) ∧ Chg (fun _ => False) w w' := by
  obtain ⟨kind, n, i, s, A, an, ac, parts, B, bn, bc, ns, width, most, bound⟩ := x
  obtain ⟨hn, hi, hkk, hwd, hmo, hbo, hA, hB, hns, hrm⟩ := hx
  unfold St.cells
  dsimp only at *
  clear hA hB hns
  obtain ⟨rfl⟩ := hk
  go_enter Try.func18, Try.ntmps18
  go_wp2_with fail
  go_region_with (first
    | (go_at_call 57; refine (digest_calls s _ (by omega)).mono ?_; rintro e w1 ⟨rfl, c1⟩; have a6 := c1.cell (p := ⟨w.heap.size, 6, none⟩) (by simp) (fun h => h); have a3 := c1.cell (p := ⟨w.heap.size, 3, none⟩) (by simp) (fun h => h))
    | (go_at_call 56; refine (wdigest_nil width (dig s) _ ?_).mono ?_; exact dig_length s; rintro e w2 ⟨rfl, hw⟩))
  all_goals (go_wp2_with fail; go_end0; exact ⟨rfl, (((Chg.refl _ w).alloc _).drew.trans c1).trans hw⟩)

set_option maxHeartbeats 1000000 in
set_option maxRecDepth 100000 in
theorem layn_no (x : St) (w : World) (hx : x.Ok w) (hk : ∀ k : Nat, k ≤ 16 → x.kind ≠ k) : Calls Try.prog 18 #[.pointer none, .agg x.cells] w fun e w' => e = .returned (.tuple #[]) ∧ Chg (fun _ => False) w w' := by
  obtain ⟨kind, n, i, s, A, an, ac, parts, B, bn, bc, ns, width, most, bound⟩ := x
  obtain ⟨hn, hi, hkk, hwd, hmo, hbo, hA, hB, hns, hrm⟩ := hx
  unfold St.cells
  dsimp only at *
  clear hA hB hns
  have q0 : (kind == 0) = false := by rw [beq_eq_false_iff_ne]; exact hk 0 (by omega)
  have q1 : (kind == 1) = false := by rw [beq_eq_false_iff_ne]; exact hk 1 (by omega)
  have q2 : (kind == 2) = false := by rw [beq_eq_false_iff_ne]; exact hk 2 (by omega)
  have q3 : (kind == 3) = false := by rw [beq_eq_false_iff_ne]; exact hk 3 (by omega)
  have q4 : (kind == 4) = false := by rw [beq_eq_false_iff_ne]; exact hk 4 (by omega)
  have q5 : (kind == 5) = false := by rw [beq_eq_false_iff_ne]; exact hk 5 (by omega)
  have q6 : (kind == 6) = false := by rw [beq_eq_false_iff_ne]; exact hk 6 (by omega)
  have q7 : (kind == 7) = false := by rw [beq_eq_false_iff_ne]; exact hk 7 (by omega)
  have q8 : (kind == 8) = false := by rw [beq_eq_false_iff_ne]; exact hk 8 (by omega)
  have q9 : (kind == 9) = false := by rw [beq_eq_false_iff_ne]; exact hk 9 (by omega)
  have q10 : (kind == 10) = false := by rw [beq_eq_false_iff_ne]; exact hk 10 (by omega)
  have q11 : (kind == 11) = false := by rw [beq_eq_false_iff_ne]; exact hk 11 (by omega)
  have q12 : (kind == 12) = false := by rw [beq_eq_false_iff_ne]; exact hk 12 (by omega)
  have q13 : (kind == 13) = false := by rw [beq_eq_false_iff_ne]; exact hk 13 (by omega)
  have q14 : (kind == 14) = false := by rw [beq_eq_false_iff_ne]; exact hk 14 (by omega)
  have q15 : (kind == 15) = false := by rw [beq_eq_false_iff_ne]; exact hk 15 (by omega)
  have q16 : (kind == 16) = false := by rw [beq_eq_false_iff_ne]; exact hk 16 (by omega)
  clear hk
  go_enter Try.func18, Try.ntmps18
  go_wp2_with fail
  go_end0
  exact ⟨rfl, (Chg.refl _ w).alloc _⟩

theorem lay_nil (x : St) (w : World) (hx : x.Ok w) : Calls Try.prog 18 #[.pointer none, .agg x.cells] w fun e w' => e = .returned (.tuple #[]) ∧ Chg (fun _ => False) w w' := by
  by_cases hno : x.kind < 0 ∨ 16 < x.kind
  · exact layn_no x w hx (fun k hk => by omega)
  · obtain ⟨k, hk⟩ : ∃ k : Nat, x.kind = k := ⟨x.kind.toNat, by omega⟩
    have hle : k ≤ 16 := by omega
    match k, hle with
    | 0, _ => exact layn_0 x w hx (Lib.hid hk)
    | 1, _ => exact layn_1 x w hx (Lib.hid hk)
    | 2, _ => exact layn_2 x w hx (Lib.hid hk)
    | 3, _ => exact layn_3 x w hx (Lib.hid hk)
    | 4, _ => exact layn_4 x w hx (Lib.hid hk)
    | 5, _ => exact layn_5 x w hx (Lib.hid hk)
    | 6, _ => exact layn_6 x w hx (Lib.hid hk)
    | 7, _ => exact layn_7 x w hx (Lib.hid hk)
    | 8, _ => exact layn_8 x w hx (Lib.hid hk)
    | 9, _ => exact layn_9 x w hx (Lib.hid hk)
    | 10, _ => exact layn_10 x w hx (Lib.hid hk)
    | 11, _ => exact layn_11 x w hx (Lib.hid hk)
    | 12, _ => exact layn_12 x w hx (Lib.hid hk)
    | 13, _ => exact layn_13 x w hx (Lib.hid hk)
    | 14, _ => exact layn_14 x w hx (Lib.hid hk)
    | 15, _ => exact layn_15 x w hx (Lib.hid hk)
    | 16, _ => exact layn_16 x w hx (Lib.hid hk)
    | k + 17, h => exact absurd h (by omega)

set_option maxHeartbeats 1000000 in
set_option maxRecDepth 100000 in
theorem dead_nil (w : World) : Calls Try.prog 70 #[.pointer none] w fun e w' => e = .returned (.bool true) ∧ w = w' := by
  go_enter Try.func70, Try.ntmps70
  go_wp2_with fail
  go_ret
  exact ⟨rfl, rfl⟩

set_option maxHeartbeats 1000000 in
set_option maxRecDepth 100000 in
theorem take_nil_uint8 (w : World) : Calls Try.prog 72 #[.pointer none] w fun e w' => e = .returned (.int .u8 0) ∧ w = w' := by
  go_enter Try.func72, Try.ntmps72
  go_wp2_with (go_at_call 70; refine (dead_nil _).mono ?_; rintro e w' ⟨rfl, rfl⟩)
  go_ret
  exact ⟨rfl, rfl⟩

set_option maxHeartbeats 1000000 in
set_option maxRecDepth 100000 in
theorem take_nil_uint16 (w : World) : Calls Try.prog 44 #[.pointer none] w fun e w' => e = .returned (.int .u16 0) ∧ w = w' := by
  go_enter Try.func44, Try.ntmps44
  go_wp2_with (go_at_call 70; refine (dead_nil _).mono ?_; rintro e w' ⟨rfl, rfl⟩)
  go_ret
  exact ⟨rfl, rfl⟩

set_option maxHeartbeats 1000000 in
set_option maxRecDepth 100000 in
theorem take_nil_uint32 (w : World) : Calls Try.prog 73 #[.pointer none] w fun e w' => e = .returned (.int .u32 0) ∧ w = w' := by
  go_enter Try.func73, Try.ntmps73
  go_wp2_with (go_at_call 70; refine (dead_nil _).mono ?_; rintro e w' ⟨rfl, rfl⟩)
  go_ret
  exact ⟨rfl, rfl⟩

set_option maxHeartbeats 1000000 in
set_option maxRecDepth 100000 in
theorem take_nil_uint64 (w : World) : Calls Try.prog 74 #[.pointer none] w fun e w' => e = .returned (.int .u64 0) ∧ w = w' := by
  go_enter Try.func74, Try.ntmps74
  go_wp2_with (go_at_call 70; refine (dead_nil _).mono ?_; rintro e w' ⟨rfl, rfl⟩)
  go_ret
  exact ⟨rfl, rfl⟩

set_option maxHeartbeats 1000000 in
set_option maxRecDepth 100000 in
theorem take_nil_int8 (w : World) : Calls Try.prog 75 #[.pointer none] w fun e w' => e = .returned (.int .i8 0) ∧ w = w' := by
  go_enter Try.func75, Try.ntmps75
  go_wp2_with (go_at_call 70; refine (dead_nil _).mono ?_; rintro e w' ⟨rfl, rfl⟩)
  go_ret
  exact ⟨rfl, rfl⟩

set_option maxHeartbeats 1000000 in
set_option maxRecDepth 100000 in
theorem take_nil_int16 (w : World) : Calls Try.prog 76 #[.pointer none] w fun e w' => e = .returned (.int .i16 0) ∧ w = w' := by
  go_enter Try.func76, Try.ntmps76
  go_wp2_with (go_at_call 70; refine (dead_nil _).mono ?_; rintro e w' ⟨rfl, rfl⟩)
  go_ret
  exact ⟨rfl, rfl⟩

set_option maxHeartbeats 1000000 in
set_option maxRecDepth 100000 in
theorem take_nil_int32 (w : World) : Calls Try.prog 77 #[.pointer none] w fun e w' => e = .returned (.int .i32 0) ∧ w = w' := by
  go_enter Try.func77, Try.ntmps77
  go_wp2_with (go_at_call 70; refine (dead_nil _).mono ?_; rintro e w' ⟨rfl, rfl⟩)
  go_ret
  exact ⟨rfl, rfl⟩

set_option maxHeartbeats 1000000 in
set_option maxRecDepth 100000 in
theorem take_nil_int64 (w : World) : Calls Try.prog 78 #[.pointer none] w fun e w' => e = .returned (.int .i64 0) ∧ w = w' := by
  go_enter Try.func78, Try.ntmps78
  go_wp2_with (go_at_call 70; refine (dead_nil _).mono ?_; rintro e w' ⟨rfl, rfl⟩)
  go_ret
  exact ⟨rfl, rfl⟩

set_option maxHeartbeats 1000000 in
set_option maxRecDepth 100000 in
theorem take_nil_shade (w : World) : Calls Try.prog 79 #[.pointer none] w fun e w' => e = .returned (.int .u16 0) ∧ w = w' := by
  go_enter Try.func79, Try.ntmps79
  go_wp2_with (go_at_call 70; refine (dead_nil _).mono ?_; rintro e w' ⟨rfl, rfl⟩)
  go_ret
  exact ⟨rfl, rfl⟩

set_option maxHeartbeats 1000000 in
set_option maxRecDepth 100000 in
theorem rfree_nil (x : Value) (w : World) : Calls Try.prog 31 #[.pointer none, x] w fun e w' => e = .returned (.int .u64 0) ∧ w = w' := by
  go_enter Try.func31, Try.ntmps31
  go_wp2_with (go_at_call 70; refine (dead_nil _).mono ?_; rintro e w' ⟨rfl, rfl⟩)
  go_ret
  exact ⟨rfl, rfl⟩

set_option maxHeartbeats 1000000 in
set_option maxRecDepth 100000 in
theorem rraw_nil (x : Int) (w : World) : Calls Try.prog 33 #[.pointer none, .int .i64 x] w fun e w' => e = .returned (S []) ∧ w = w' := by
  go_enter Try.func33, Try.ntmps33
  go_wp2_with (go_at_call 70; refine (dead_nil _).mono ?_; rintro e w' ⟨rfl, rfl⟩)
  go_ret
  exact ⟨rfl, rfl⟩

set_option maxHeartbeats 1000000 in
set_option maxRecDepth 100000 in
theorem rtext_nil (x : Int) (w : World) : Calls Try.prog 34 #[.pointer none, .int .i64 x] w fun e w' => e = .returned (S []) ∧ w = w' := by
  go_enter Try.func34, Try.ntmps34
  go_wp2_with (go_at_call 70; refine (dead_nil _).mono ?_; rintro e w' ⟨rfl, rfl⟩)
  go_ret
  exact ⟨rfl, rfl⟩

set_option maxHeartbeats 1000000 in
set_option maxRecDepth 100000 in
theorem rlist_nil (x f : Value) (w : World) : Calls Try.prog 28 #[.pointer none, x, f] w fun e w' => e = .returned (.slice none 0 0) ∧ w = w' := by
  go_enter Try.func28, Try.ntmps28
  go_wp2_with (go_at_call 70; refine (dead_nil _).mono ?_; rintro e w' ⟨rfl, rfl⟩)
  go_ret
  exact ⟨rfl, rfl⟩

set_option maxHeartbeats 1000000 in
set_option maxRecDepth 100000 in
theorem rleft_nil (w : World) : Calls Try.prog 25 #[.pointer none] w fun e w' => e = .returned (.int .i64 0) ∧ w = w' := by
  go_enter Try.func25, Try.ntmps25
  go_wp2_with fail
  go_ret
  exact ⟨rfl, rfl⟩

set_option maxHeartbeats 1000000 in
set_option maxRecDepth 100000 in
theorem rat_nil (w : World) : Calls Try.prog 22 #[.pointer none] w fun e w' => e = .returned (.int .i64 0) ∧ w = w' := by
  go_enter Try.func22, Try.ntmps22
  go_wp2_with fail
  go_ret
  exact ⟨rfl, rfl⟩

set_option maxHeartbeats 1000000 in
set_option maxRecDepth 100000 in
theorem rfault_nil (w : World) : Calls Try.prog 24 #[.pointer none] w fun e w' => e = .returned (.pointer none) ∧ w = w' := by
  go_enter Try.func24, Try.ntmps24
  go_wp2_with fail
  go_ret
  exact ⟨rfl, rfl⟩

set_option maxHeartbeats 1000000 in
set_option maxRecDepth 100000 in
theorem rend_nil (w : World) : Calls Try.prog 36 #[.pointer none] w fun e w' => e = .returned (.iface 57 (.int .i64 1)) ∧ w = w' := by
  go_enter Try.func36, Try.ntmps36
  go_wp2_with fail
  go_ret
  exact ⟨rfl, rfl⟩

set_option maxHeartbeats 1000000 in
set_option maxRecDepth 100000 in
theorem rsigned_nil (w : World) : Calls Try.prog 32 #[.pointer none] w fun e w' => e = .returned (.int .i64 0) ∧ w = w' := by
  go_enter Try.func32, Try.ntmps32
  go_wp2_with (go_at_call 31; refine (rfree_nil _ _).mono ?_; rintro e w' ⟨rfl, rfl⟩)
  go_ret
  exact ⟨ret_int (by decide +kernel), rfl⟩

set_option maxHeartbeats 1000000 in
set_option maxRecDepth 100000 in
theorem rdigest_nil (n : Int) (w : World) : Calls Try.prog 35 #[.pointer none, .int .i64 n] w fun e w' => e = .returned (.agg (bys (dig [])).toArray) ∧ Chg (fun _ => False) w w' := by
  have hsl := fun w' => slice_full (w.heap.size + 1) w'
  have hz0 : Blk ((w.alloc (.cells (dgc [] 0) 65)).alloc (.cells (dgc [] 0) 65)) w.heap.size 65 (dgc [] 0) := (Blk.new w _ (dgc [] 0)).alloc _
  have hz1 : Blk ((w.alloc (.cells (dgc [] 0) 65)).alloc (.cells (dgc [] 0) 65)) (w.heap.size + 1) 65 (dgc [] 0) := by
    have := Blk.new (w.alloc (.cells (dgc [] 0) 65)) 65 (dgc [] 0)
    have e : (w.alloc (.cells (dgc [] 0) 65)).heap.size = w.heap.size + 1 := by simp
    rw [e] at this
    exact this
  have hzd : ((w.alloc (.cells (dgc [] 0) 65)).alloc (.cells (dgc [] 0) 65)).drew.heap[w.heap.size + 1]? = some (.cells (dgc [] 0) 65 (0, 0)) := hz1
  have cz := ((Chg.refl (fun _ => False) w).alloc (.cells (dgc [] 0) 65)).alloc (.cells (dgc [] 0) 65)
  go_enter Try.func35, Try.ntmps35
  go_wp2_with fail
  go_region_law (first
    | (refine step_copy_S rfl (.tmp 6) (.tmp 10) 76 9 rfl 5 Try.underlying76 ?_ (w.heap.size + 1) 32 32 [] rfl rfl (dgc [] 0) 65 ?_ ?_ ?_ ?_; exact (by kernel_rfl); exact hz1; exact (by simp); exact (by simp))
    | (go_simp; go_at_call 80; refine (into_calls _ _).mono ?_; rintro e w' ⟨rfl, rfl⟩)
    | (go_simp; go_at_call 33; refine (rraw_nil _ _).mono ?_; rintro e w1 ⟨rfl, rfl⟩))
  all_goals
    rw [show (bys [] ++ (dgc [] 0).toList).toArray = (bys (dig [])).toArray from rfl]
    obtain ⟨cs, hcs⟩ : ∃ cs, cs = (bys (dig [])).toArray := ⟨_, rfl⟩
    have hsz : cs.size = 32 := by rw [hcs]; simp [bys, dig_length]
    have hone : cs.all (·.oneCell') = true := by rw [hcs]; exact dig_one _
    rw [← hcs]
    have Hcs := Lib.hid hcs
    have Hsz := Lib.hid hsz
    have hc0 := (hz0.drew).setRow_far (g' := w.heap.size + 1) (by omega) cs
    have hc1 := (hz1.drew).setRow cs
    have hs1 := cz.drew.setRow (g := w.heap.size + 1) (.inr (by omega)) cs
    clear hcs hsz
    go_wp2_with (first | (refine wpList_load_row rfl 65 (.tmp 5) rfl (w.heap.size + 1) rfl 65 cs (0, 0) _ hc1 Try.underlying65 rfl (by rw [Hsz.out]; exact info_digest) ?_) | (refine wpList_store_row rfl 65 (.tmp 4) (.tmp 12) rfl w.heap.size cs rfl rfl 65 (dgc [] 0) hc0 (by rw [Hsz.out]; exact info_digest) (by rw [Hsz.out]; rfl) hone ?_))
    refine bodyPost_ret (results_cell_row rfl _ _ w.heap.size 65 cs (0, 0) _ rfl (hc0.setRow _) Try.underlying65 rfl (by rw [Hsz.out]; exact info_digest)) rfl ?_
    exact ⟨by rw [Hcs.out], hs1.setRow (.inr (Nat.le_refl _)) _⟩

set_option maxHeartbeats 1000000 in
set_option maxRecDepth 100000 in
theorem fixedn_0 (k : Int) (w : World) (hk : Hid (k = 0)) : Calls Try.prog 30 #[.pointer none, .int .i64 k] w fun e w' => e = .returned (.int .u64 0) ∧ w = w' := by
  obtain ⟨rfl⟩ := hk
  go_enter Try.func30, Try.ntmps30
  go_wp2_with fail
  refine (take_nil_uint8 _).mono ?_
  rintro e w' ⟨rfl, rfl⟩
  go_wp2_with fail
  go_ret
  exact ⟨rfl, rfl⟩

set_option maxHeartbeats 1000000 in
set_option maxRecDepth 100000 in
theorem fixedn_1 (k : Int) (w : World) (hk : Hid (k = 1)) : Calls Try.prog 30 #[.pointer none, .int .i64 k] w fun e w' => e = .returned (.int .u64 0) ∧ w = w' := by
  obtain ⟨rfl⟩ := hk
  go_enter Try.func30, Try.ntmps30
  go_wp2_with fail
  refine (take_nil_uint16 _).mono ?_
  rintro e w' ⟨rfl, rfl⟩
  go_wp2_with fail
  go_ret
  exact ⟨rfl, rfl⟩

set_option maxHeartbeats 1000000 in
set_option maxRecDepth 100000 in
theorem fixedn_2 (k : Int) (w : World) (hk : Hid (k = 2)) : Calls Try.prog 30 #[.pointer none, .int .i64 k] w fun e w' => e = .returned (.int .u64 0) ∧ w = w' := by
  obtain ⟨rfl⟩ := hk
  go_enter Try.func30, Try.ntmps30
  go_wp2_with fail
  refine (take_nil_uint32 _).mono ?_
  rintro e w' ⟨rfl, rfl⟩
  go_wp2_with fail
  go_ret
  exact ⟨rfl, rfl⟩

set_option maxHeartbeats 1000000 in
set_option maxRecDepth 100000 in
theorem fixedn_3 (k : Int) (w : World) (hk : Hid (k = 3)) : Calls Try.prog 30 #[.pointer none, .int .i64 k] w fun e w' => e = .returned (.int .u64 0) ∧ w = w' := by
  obtain ⟨rfl⟩ := hk
  go_enter Try.func30, Try.ntmps30
  go_wp2_with fail
  refine (take_nil_uint64 _).mono ?_
  rintro e w' ⟨rfl, rfl⟩
  go_wp2_with fail
  go_ret
  exact ⟨rfl, rfl⟩

set_option maxHeartbeats 1000000 in
set_option maxRecDepth 100000 in
theorem fixedn_4 (k : Int) (w : World) (hk : Hid (k = 4)) : Calls Try.prog 30 #[.pointer none, .int .i64 k] w fun e w' => e = .returned (.int .u64 0) ∧ w = w' := by
  obtain ⟨rfl⟩ := hk
  go_enter Try.func30, Try.ntmps30
  go_wp2_with fail
  refine (take_nil_int8 _).mono ?_
  rintro e w' ⟨rfl, rfl⟩
  go_wp2_with fail
  go_ret
  exact ⟨rfl, rfl⟩

set_option maxHeartbeats 1000000 in
set_option maxRecDepth 100000 in
theorem fixedn_5 (k : Int) (w : World) (hk : Hid (k = 5)) : Calls Try.prog 30 #[.pointer none, .int .i64 k] w fun e w' => e = .returned (.int .u64 0) ∧ w = w' := by
  obtain ⟨rfl⟩ := hk
  go_enter Try.func30, Try.ntmps30
  go_wp2_with fail
  refine (take_nil_int16 _).mono ?_
  rintro e w' ⟨rfl, rfl⟩
  go_wp2_with fail
  go_ret
  exact ⟨rfl, rfl⟩

set_option maxHeartbeats 1000000 in
set_option maxRecDepth 100000 in
theorem fixedn_6 (k : Int) (w : World) (hk : Hid (k = 6)) : Calls Try.prog 30 #[.pointer none, .int .i64 k] w fun e w' => e = .returned (.int .u64 0) ∧ w = w' := by
  obtain ⟨rfl⟩ := hk
  go_enter Try.func30, Try.ntmps30
  go_wp2_with fail
  refine (take_nil_int32 _).mono ?_
  rintro e w' ⟨rfl, rfl⟩
  go_wp2_with fail
  go_ret
  exact ⟨rfl, rfl⟩

set_option maxHeartbeats 1000000 in
set_option maxRecDepth 100000 in
theorem fixedn_7 (k : Int) (w : World) (hk : Hid (k = 7)) : Calls Try.prog 30 #[.pointer none, .int .i64 k] w fun e w' => e = .returned (.int .u64 0) ∧ w = w' := by
  obtain ⟨rfl⟩ := hk
  go_enter Try.func30, Try.ntmps30
  go_wp2_with fail
  refine (take_nil_int64 _).mono ?_
  rintro e w' ⟨rfl, rfl⟩
  go_wp2_with fail
  go_ret
  exact ⟨rfl, rfl⟩

set_option maxHeartbeats 1000000 in
set_option maxRecDepth 100000 in
theorem fixedn_no (k : Int) (w : World) (hk : ∀ j : Nat, j ≤ 7 → k ≠ j) : Calls Try.prog 30 #[.pointer none, .int .i64 k] w fun e w' => e = .returned (.int .u64 0) ∧ w = w' := by
  have q0 : (k == 0) = false := by rw [beq_eq_false_iff_ne]; exact hk 0 (by omega)
  have q1 : (k == 1) = false := by rw [beq_eq_false_iff_ne]; exact hk 1 (by omega)
  have q2 : (k == 2) = false := by rw [beq_eq_false_iff_ne]; exact hk 2 (by omega)
  have q3 : (k == 3) = false := by rw [beq_eq_false_iff_ne]; exact hk 3 (by omega)
  have q4 : (k == 4) = false := by rw [beq_eq_false_iff_ne]; exact hk 4 (by omega)
  have q5 : (k == 5) = false := by rw [beq_eq_false_iff_ne]; exact hk 5 (by omega)
  have q6 : (k == 6) = false := by rw [beq_eq_false_iff_ne]; exact hk 6 (by omega)
  have q7 : (k == 7) = false := by rw [beq_eq_false_iff_ne]; exact hk 7 (by omega)
  clear hk
  go_enter Try.func30, Try.ntmps30
  go_wp2_with fail
  refine (take_nil_shade _).mono ?_
  rintro e w' ⟨rfl, rfl⟩
  go_wp2_with fail
  go_ret
  exact ⟨rfl, rfl⟩
theorem fixed_nil (k : Int) (w : World) : Calls Try.prog 30 #[.pointer none, .int .i64 k] w fun e w' => e = .returned (.int .u64 0) ∧ w = w' := by
  by_cases hno : k < 0 ∨ 7 < k
  · exact fixedn_no k w (fun j hj => by omega)
  · obtain ⟨j, rfl⟩ : ∃ j : Nat, k = j := ⟨k.toNat, by omega⟩
    have hj : j ≤ 7 := by omega
    match j, hj with
    | 0, _ => exact fixedn_0 _ w (Lib.hid rfl)
    | 1, _ => exact fixedn_1 _ w (Lib.hid rfl)
    | 2, _ => exact fixedn_2 _ w (Lib.hid rfl)
    | 3, _ => exact fixedn_3 _ w (Lib.hid rfl)
    | 4, _ => exact fixedn_4 _ w (Lib.hid rfl)
    | 5, _ => exact fixedn_5 _ w (Lib.hid rfl)
    | 6, _ => exact fixedn_6 _ w (Lib.hid rfl)
    | 7, _ => exact fixedn_7 _ w (Lib.hid rfl)
    | _ + 8, h => exact absurd h (by omega)
end Go.Proofs.Ytkajbpdhglaieaa
