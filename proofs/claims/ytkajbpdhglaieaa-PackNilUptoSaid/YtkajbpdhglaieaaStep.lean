/-
  heartwoodlaw01.lay: a Step laid by the program, one walk for each kind. Printed by gen_lay.py.
-/
import Derived.Test.YtkajbpdhglaieaaSt
import Derived.Deep.RegionWith
namespace Go.Proofs.Ytkajbpdhglaieaa
open Go.RowKit
set_option linter.unusedVariables false

set_option maxHeartbeats 1000000 in
set_option maxRecDepth 100000 in
theorem lay_0 (g : Nat) (x : St) (v : Value) (xs : List UInt8) (w : World) (h : IsW w g v xs) (hx : x.Ok w) (hf : x.Far g v) (hk : Hid (x.kind = 0)) (hroom : xs.length + (Pk.be 1 x.n).length ≤ 140737488354000) :
    Calls Try.prog 18 #[.pointer (some ⟨g, 0, none⟩), .agg x.cells] w fun e w' => e = .returned (.tuple #[]) ∧ Wrote w w' g v (xs ++ Pk.be 1 x.n) := by
  have hpl := Lib.hid hx.pl
  have hnl := Lib.hid hx.nl
  obtain ⟨kind, n, i, s, A, an, ac, parts, B, bn, bc, ns, width, most, bound⟩ := x
  obtain ⟨hn, hi, hkk, hwd, hmo, hbo, hA, hB, hns, hrm⟩ := hx
  obtain ⟨fA, fB⟩ := hf
  unfold St.cells
  dsimp only at *
  obtain ⟨rfl⟩ := hk
  go_enter Try.func18, Try.ntmps18
  go_wp2_with fail
  refine (put_uint8 g _ v xs _ (h.alloc _) (by rw [Pk.be_length] at hroom; omega) (Lib.hid (by omega))).mono ?_
  rintro e w' ⟨rfl, hw⟩
  go_wp2_with fail
  go_end0
  exact ⟨rfl, hw.of_alloc |>.cast (by rw [be_uint8])⟩

set_option maxHeartbeats 1000000 in
set_option maxRecDepth 100000 in
theorem lay_1 (g : Nat) (x : St) (v : Value) (xs : List UInt8) (w : World) (h : IsW w g v xs) (hx : x.Ok w) (hf : x.Far g v) (hk : Hid (x.kind = 1)) (hroom : xs.length + (Pk.be 2 x.n).length ≤ 140737488354000) :
    Calls Try.prog 18 #[.pointer (some ⟨g, 0, none⟩), .agg x.cells] w fun e w' => e = .returned (.tuple #[]) ∧ Wrote w w' g v (xs ++ Pk.be 2 x.n) := by
  have hpl := Lib.hid hx.pl
  have hnl := Lib.hid hx.nl
  obtain ⟨kind, n, i, s, A, an, ac, parts, B, bn, bc, ns, width, most, bound⟩ := x
  obtain ⟨hn, hi, hkk, hwd, hmo, hbo, hA, hB, hns, hrm⟩ := hx
  obtain ⟨fA, fB⟩ := hf
  unfold St.cells
  dsimp only at *
  obtain ⟨rfl⟩ := hk
  go_enter Try.func18, Try.ntmps18
  go_wp2_with fail
  refine (put_uint16 g _ v xs _ (h.alloc _) (by rw [Pk.be_length] at hroom; omega)).mono ?_
  rintro e w' ⟨rfl, hw⟩
  go_wp2_with fail
  go_end0
  exact ⟨rfl, hw.of_alloc |>.cast (by rw [be_uint16])⟩

set_option maxHeartbeats 1000000 in
set_option maxRecDepth 100000 in
theorem lay_2 (g : Nat) (x : St) (v : Value) (xs : List UInt8) (w : World) (h : IsW w g v xs) (hx : x.Ok w) (hf : x.Far g v) (hk : Hid (x.kind = 2)) (hroom : xs.length + (Pk.be 4 x.n).length ≤ 140737488354000) :
    Calls Try.prog 18 #[.pointer (some ⟨g, 0, none⟩), .agg x.cells] w fun e w' => e = .returned (.tuple #[]) ∧ Wrote w w' g v (xs ++ Pk.be 4 x.n) := by
  have hpl := Lib.hid hx.pl
  have hnl := Lib.hid hx.nl
  obtain ⟨kind, n, i, s, A, an, ac, parts, B, bn, bc, ns, width, most, bound⟩ := x
  obtain ⟨hn, hi, hkk, hwd, hmo, hbo, hA, hB, hns, hrm⟩ := hx
  obtain ⟨fA, fB⟩ := hf
  unfold St.cells
  dsimp only at *
  obtain ⟨rfl⟩ := hk
  go_enter Try.func18, Try.ntmps18
  go_wp2_with fail
  refine (put_uint32 g _ v xs _ (h.alloc _) (by rw [Pk.be_length] at hroom; omega)).mono ?_
  rintro e w' ⟨rfl, hw⟩
  go_wp2_with fail
  go_end0
  exact ⟨rfl, hw.of_alloc |>.cast (by rw [be_uint32])⟩

set_option maxHeartbeats 1000000 in
set_option maxRecDepth 100000 in
theorem lay_3 (g : Nat) (x : St) (v : Value) (xs : List UInt8) (w : World) (h : IsW w g v xs) (hx : x.Ok w) (hf : x.Far g v) (hk : Hid (x.kind = 3)) (hroom : xs.length + (Pk.be 8 x.n).length ≤ 140737488354000) :
    Calls Try.prog 18 #[.pointer (some ⟨g, 0, none⟩), .agg x.cells] w fun e w' => e = .returned (.tuple #[]) ∧ Wrote w w' g v (xs ++ Pk.be 8 x.n) := by
  have hpl := Lib.hid hx.pl
  have hnl := Lib.hid hx.nl
  obtain ⟨kind, n, i, s, A, an, ac, parts, B, bn, bc, ns, width, most, bound⟩ := x
  obtain ⟨hn, hi, hkk, hwd, hmo, hbo, hA, hB, hns, hrm⟩ := hx
  obtain ⟨fA, fB⟩ := hf
  unfold St.cells
  dsimp only at *
  obtain ⟨rfl⟩ := hk
  go_enter Try.func18, Try.ntmps18
  go_wp2_with fail
  refine (put_uint64 g _ v xs _ (h.alloc _) (by rw [Pk.be_length] at hroom; omega)).mono ?_
  rintro e w' ⟨rfl, hw⟩
  go_wp2_with fail
  go_end0
  exact ⟨rfl, hw.of_alloc⟩

set_option maxHeartbeats 1000000 in
set_option maxRecDepth 100000 in
theorem lay_4 (g : Nat) (x : St) (v : Value) (xs : List UInt8) (w : World) (h : IsW w g v xs) (hx : x.Ok w) (hf : x.Far g v) (hk : Hid (x.kind = 4)) (hroom : xs.length + (Pk.be 1 x.n).length ≤ 140737488354000) :
    Calls Try.prog 18 #[.pointer (some ⟨g, 0, none⟩), .agg x.cells] w fun e w' => e = .returned (.tuple #[]) ∧ Wrote w w' g v (xs ++ Pk.be 1 x.n) := by
  have hpl := Lib.hid hx.pl
  have hnl := Lib.hid hx.nl
  obtain ⟨kind, n, i, s, A, an, ac, parts, B, bn, bc, ns, width, most, bound⟩ := x
  obtain ⟨hn, hi, hkk, hwd, hmo, hbo, hA, hB, hns, hrm⟩ := hx
  obtain ⟨fA, fB⟩ := hf
  unfold St.cells
  dsimp only at *
  obtain ⟨rfl⟩ := hk
  go_enter Try.func18, Try.ntmps18
  go_wp2_with fail
  refine (put_int8 g _ v xs _ (h.alloc _) (by rw [Pk.be_length] at hroom; omega)).mono ?_
  rintro e w' ⟨rfl, hw⟩
  go_wp2_with fail
  go_end0
  exact ⟨rfl, hw.of_alloc |>.cast (by rw [be_int8])⟩

set_option maxHeartbeats 1000000 in
set_option maxRecDepth 100000 in
theorem lay_5 (g : Nat) (x : St) (v : Value) (xs : List UInt8) (w : World) (h : IsW w g v xs) (hx : x.Ok w) (hf : x.Far g v) (hk : Hid (x.kind = 5)) (hroom : xs.length + (Pk.be 2 x.n).length ≤ 140737488354000) :
    Calls Try.prog 18 #[.pointer (some ⟨g, 0, none⟩), .agg x.cells] w fun e w' => e = .returned (.tuple #[]) ∧ Wrote w w' g v (xs ++ Pk.be 2 x.n) := by
  have hpl := Lib.hid hx.pl
  have hnl := Lib.hid hx.nl
  obtain ⟨kind, n, i, s, A, an, ac, parts, B, bn, bc, ns, width, most, bound⟩ := x
  obtain ⟨hn, hi, hkk, hwd, hmo, hbo, hA, hB, hns, hrm⟩ := hx
  obtain ⟨fA, fB⟩ := hf
  unfold St.cells
  dsimp only at *
  obtain ⟨rfl⟩ := hk
  go_enter Try.func18, Try.ntmps18
  go_wp2_with fail
  refine (put_int16 g _ v xs _ (h.alloc _) (by rw [Pk.be_length] at hroom; omega)).mono ?_
  rintro e w' ⟨rfl, hw⟩
  go_wp2_with fail
  go_end0
  exact ⟨rfl, hw.of_alloc |>.cast (by rw [be_int16])⟩

set_option maxHeartbeats 1000000 in
set_option maxRecDepth 100000 in
theorem lay_6 (g : Nat) (x : St) (v : Value) (xs : List UInt8) (w : World) (h : IsW w g v xs) (hx : x.Ok w) (hf : x.Far g v) (hk : Hid (x.kind = 6)) (hroom : xs.length + (Pk.be 4 x.n).length ≤ 140737488354000) :
    Calls Try.prog 18 #[.pointer (some ⟨g, 0, none⟩), .agg x.cells] w fun e w' => e = .returned (.tuple #[]) ∧ Wrote w w' g v (xs ++ Pk.be 4 x.n) := by
  have hpl := Lib.hid hx.pl
  have hnl := Lib.hid hx.nl
  obtain ⟨kind, n, i, s, A, an, ac, parts, B, bn, bc, ns, width, most, bound⟩ := x
  obtain ⟨hn, hi, hkk, hwd, hmo, hbo, hA, hB, hns, hrm⟩ := hx
  obtain ⟨fA, fB⟩ := hf
  unfold St.cells
  dsimp only at *
  obtain ⟨rfl⟩ := hk
  go_enter Try.func18, Try.ntmps18
  go_wp2_with fail
  refine (put_int32 g _ v xs _ (h.alloc _) (by rw [Pk.be_length] at hroom; omega)).mono ?_
  rintro e w' ⟨rfl, hw⟩
  go_wp2_with fail
  go_end0
  exact ⟨rfl, hw.of_alloc |>.cast (by rw [be_int32])⟩

set_option maxHeartbeats 1000000 in
set_option maxRecDepth 100000 in
theorem lay_7 (g : Nat) (x : St) (v : Value) (xs : List UInt8) (w : World) (h : IsW w g v xs) (hx : x.Ok w) (hf : x.Far g v) (hk : Hid (x.kind = 7)) (hroom : xs.length + (Pk.be 8 x.n).length ≤ 140737488354000) :
    Calls Try.prog 18 #[.pointer (some ⟨g, 0, none⟩), .agg x.cells] w fun e w' => e = .returned (.tuple #[]) ∧ Wrote w w' g v (xs ++ Pk.be 8 x.n) := by
  have hpl := Lib.hid hx.pl
  have hnl := Lib.hid hx.nl
  obtain ⟨kind, n, i, s, A, an, ac, parts, B, bn, bc, ns, width, most, bound⟩ := x
  obtain ⟨hn, hi, hkk, hwd, hmo, hbo, hA, hB, hns, hrm⟩ := hx
  obtain ⟨fA, fB⟩ := hf
  unfold St.cells
  dsimp only at *
  obtain ⟨rfl⟩ := hk
  go_enter Try.func18, Try.ntmps18
  go_wp2_with fail
  refine (put_int64 g _ v xs _ (h.alloc _) (by rw [Pk.be_length] at hroom; omega)).mono ?_
  rintro e w' ⟨rfl, hw⟩
  go_wp2_with fail
  go_end0
  exact ⟨rfl, hw.of_alloc |>.cast (by rw [be_int64])⟩

set_option maxHeartbeats 1000000 in
set_option maxRecDepth 100000 in
theorem lay_8 (g : Nat) (x : St) (v : Value) (xs : List UInt8) (w : World) (h : IsW w g v xs) (hx : x.Ok w) (hf : x.Far g v) (hk : Hid (x.kind = 8)) (hroom : xs.length + (Pk.be 2 x.n).length ≤ 140737488354000) :
    Calls Try.prog 18 #[.pointer (some ⟨g, 0, none⟩), .agg x.cells] w fun e w' => e = .returned (.tuple #[]) ∧ Wrote w w' g v (xs ++ Pk.be 2 x.n) := by
  have hpl := Lib.hid hx.pl
  have hnl := Lib.hid hx.nl
  obtain ⟨kind, n, i, s, A, an, ac, parts, B, bn, bc, ns, width, most, bound⟩ := x
  obtain ⟨hn, hi, hkk, hwd, hmo, hbo, hA, hB, hns, hrm⟩ := hx
  obtain ⟨fA, fB⟩ := hf
  unfold St.cells
  dsimp only at *
  obtain ⟨rfl⟩ := hk
  go_enter Try.func18, Try.ntmps18
  go_wp2_with fail
  refine (put_shade g _ v xs _ (h.alloc _) (by rw [Pk.be_length] at hroom; omega)).mono ?_
  rintro e w' ⟨rfl, hw⟩
  go_wp2_with fail
  go_end0
  exact ⟨rfl, hw.of_alloc |>.cast (by rw [be_shade])⟩

set_option maxHeartbeats 1000000 in
set_option maxRecDepth 100000 in
theorem lay_9 (g : Nat) (x : St) (v : Value) (xs : List UInt8) (w : World) (h : IsW w g v xs) (hx : x.Ok w) (hf : x.Far g v) (hk : Hid (x.kind = 9)) (hroom : xs.length + (Pk.free x.n).length ≤ 140737488354000) :
    Calls Try.prog 18 #[.pointer (some ⟨g, 0, none⟩), .agg x.cells] w fun e w' => e = .returned (.tuple #[]) ∧ Wrote w w' g v (xs ++ Pk.free x.n) := by
  have hpl := Lib.hid hx.pl
  have hnl := Lib.hid hx.nl
  obtain ⟨kind, n, i, s, A, an, ac, parts, B, bn, bc, ns, width, most, bound⟩ := x
  obtain ⟨hn, hi, hkk, hwd, hmo, hbo, hA, hB, hns, hrm⟩ := hx
  obtain ⟨fA, fB⟩ := hf
  unfold St.cells
  dsimp only at *
  obtain ⟨rfl⟩ := hk
  go_enter Try.func18, Try.ntmps18
  go_wp2_with fail
  refine (free_calls g n v xs _ (h.alloc _) hn (by omega)).mono ?_
  rintro e w' ⟨rfl, hw⟩
  go_wp2_with fail
  go_end0
  exact ⟨rfl, hw.of_alloc⟩

set_option maxHeartbeats 1000000 in
set_option maxRecDepth 100000 in
theorem lay_10 (g : Nat) (x : St) (v : Value) (xs : List UInt8) (w : World) (h : IsW w g v xs) (hx : x.Ok w) (hf : x.Far g v) (hk : Hid (x.kind = 10)) (hroom : xs.length + (Pk.free (Pk.zig x.i)).length ≤ 140737488354000) :
    Calls Try.prog 18 #[.pointer (some ⟨g, 0, none⟩), .agg x.cells] w fun e w' => e = .returned (.tuple #[]) ∧ Wrote w w' g v (xs ++ Pk.free (Pk.zig x.i)) := by
  have hpl := Lib.hid hx.pl
  have hnl := Lib.hid hx.nl
  obtain ⟨kind, n, i, s, A, an, ac, parts, B, bn, bc, ns, width, most, bound⟩ := x
  obtain ⟨hn, hi, hkk, hwd, hmo, hbo, hA, hB, hns, hrm⟩ := hx
  obtain ⟨fA, fB⟩ := hf
  unfold St.cells
  dsimp only at *
  obtain ⟨rfl⟩ := hk
  go_enter Try.func18, Try.ntmps18
  go_wp2_with fail
  refine (signed_calls g i v xs _ (h.alloc _) hi (by omega)).mono ?_
  rintro e w' ⟨rfl, hw⟩
  go_wp2_with fail
  go_end0
  exact ⟨rfl, hw.of_alloc⟩

set_option maxHeartbeats 1000000 in
set_option maxRecDepth 100000 in
theorem lay_11 (g : Nat) (x : St) (v : Value) (xs : List UInt8) (w : World) (h : IsW w g v xs) (hx : x.Ok w) (hf : x.Far g v) (hk : Hid (x.kind = 11)) (hroom : xs.length + (x.parts.flatten).length ≤ 140737488354000) :
    Calls Try.prog 18 #[.pointer (some ⟨g, 0, none⟩), .agg x.cells] w fun e w' => e = .returned (.tuple #[]) ∧ Wrote w w' g v (xs ++ x.parts.flatten) := by
  have hpl := Lib.hid hx.pl
  have hnl := Lib.hid hx.nl
  obtain ⟨kind, n, i, s, A, an, ac, parts, B, bn, bc, ns, width, most, bound⟩ := x
  obtain ⟨hn, hi, hkk, hwd, hmo, hbo, hA, hB, hns, hrm⟩ := hx
  obtain ⟨fA, fB⟩ := hf
  unfold St.cells
  dsimp only at *
  obtain ⟨rfl⟩ := hk
  go_enter Try.func18, Try.ntmps18
  go_wp2_with fail
  refine (raw_calls g A an ac parts v xs _ (h.alloc _) (hA.alloc _) fA (by omega) (by omega)).mono ?_
  rintro e w' ⟨rfl, hw⟩
  go_wp2_with fail
  go_end0
  exact ⟨rfl, hw.of_alloc⟩

set_option maxHeartbeats 1000000 in
set_option maxRecDepth 100000 in
theorem lay_12 (g : Nat) (x : St) (v : Value) (xs : List UInt8) (w : World) (h : IsW w g v xs) (hx : x.Ok w) (hf : x.Far g v) (hk : Hid (x.kind = 12)) (hroom : xs.length + ((Pk.free x.s.length ++ x.s)).length ≤ 140737488354000) :
    Calls Try.prog 18 #[.pointer (some ⟨g, 0, none⟩), .agg x.cells] w fun e w' => e = .returned (.tuple #[]) ∧ Wrote w w' g v (xs ++ (Pk.free x.s.length ++ x.s)) := by
  have hpl := Lib.hid hx.pl
  have hnl := Lib.hid hx.nl
  obtain ⟨kind, n, i, s, A, an, ac, parts, B, bn, bc, ns, width, most, bound⟩ := x
  obtain ⟨hn, hi, hkk, hwd, hmo, hbo, hA, hB, hns, hrm⟩ := hx
  obtain ⟨fA, fB⟩ := hf
  unfold St.cells
  dsimp only at *
  obtain ⟨rfl⟩ := hk
  go_enter Try.func18, Try.ntmps18
  go_wp2_with fail
  refine (text_calls g s v xs _ (h.alloc _) (by simp at hroom; omega)).mono ?_
  rintro e w' ⟨rfl, hw⟩
  go_wp2_with fail
  go_end0
  exact ⟨rfl, hw.of_alloc⟩

set_option maxHeartbeats 1000000 in
set_option maxRecDepth 100000 in
theorem lay_14 (g : Nat) (x : St) (v : Value) (xs : List UInt8) (w : World) (h : IsW w g v xs) (hx : x.Ok w) (hf : x.Far g v) (hk : Hid (x.kind = 14)) (hroom : xs.length + ((Pk.free x.bn ++ (x.ns.map Pk.free).flatten)).length ≤ 140737488354000) :
    Calls Try.prog 18 #[.pointer (some ⟨g, 0, none⟩), .agg x.cells] w fun e w' => e = .returned (.tuple #[]) ∧ Wrote w w' g v (xs ++ (Pk.free x.bn ++ (x.ns.map Pk.free).flatten)) := by
  have hpl := Lib.hid hx.pl
  have hnl := Lib.hid hx.nl
  obtain ⟨kind, n, i, s, A, an, ac, parts, B, bn, bc, ns, width, most, bound⟩ := x
  obtain ⟨hn, hi, hkk, hwd, hmo, hbo, hA, hB, hns, hrm⟩ := hx
  obtain ⟨fA, fB⟩ := hf
  unfold St.cells
  dsimp only at *
  obtain ⟨rfl⟩ := hk
  go_enter Try.func18, Try.ntmps18
  go_wp2_with fail
  refine (each_uint64 g 58 B bn bc (u64s ns) (ns.map Pk.free) v xs _ (h.alloc _) (hB.alloc _) (by simp [hnl.out]) fB (by omega) (by rw [List.length_append] at hroom; omega) (fun _ _ => by kernel_rfl) (fun j u l hu hl v xs w hh hr => by
    simp only [u64s, List.getElem?_map, Option.map_eq_some_iff] at hu hl
    obtain ⟨y, hy, rfl⟩ := hu
    obtain ⟨z, hz, rfl⟩ := hl
    rw [hy] at hz; injection hz with hz; subst hz
    exact layFree_calls g y v xs w hh (hns y (List.mem_of_getElem? hy)) hr)).mono ?_
  rintro e w' ⟨rfl, hw⟩
  go_wp2_with fail
  go_end0
  exact ⟨rfl, hw.of_alloc⟩

set_option maxHeartbeats 1000000 in
set_option maxRecDepth 100000 in
theorem lay_15 (g : Nat) (x : St) (v : Value) (xs : List UInt8) (w : World) (h : IsW w g v xs) (hx : x.Ok w) (hf : x.Far g v) (hk : Hid (x.kind = 15)) (hroom : xs.length + ((Pk.free x.an ++ (x.parts.map Pk.text).flatten)).length ≤ 140737488354000) :
    Calls Try.prog 18 #[.pointer (some ⟨g, 0, none⟩), .agg x.cells] w fun e w' => e = .returned (.tuple #[]) ∧ Wrote w w' g v (xs ++ (Pk.free x.an ++ (x.parts.map Pk.text).flatten)) := by
  have hpl := Lib.hid hx.pl
  have hnl := Lib.hid hx.nl
  obtain ⟨kind, n, i, s, A, an, ac, parts, B, bn, bc, ns, width, most, bound⟩ := x
  obtain ⟨hn, hi, hkk, hwd, hmo, hbo, hA, hB, hns, hrm⟩ := hx
  obtain ⟨fA, fB⟩ := hf
  unfold St.cells
  dsimp only at *
  obtain ⟨rfl⟩ := hk
  go_enter Try.func18, Try.ntmps18
  go_wp2_with fail
  refine (each_string g 59 A an ac (strs parts) (parts.map Pk.text) v xs _ (h.alloc _) (hA.alloc _) (by simp [hpl.out]) fA (by omega) (by simp only [List.length_append] at hroom; omega) (fun _ _ => by kernel_rfl) (fun j u l hu hl v xs w hh hr => by
    simp only [strs, List.getElem?_map, Option.map_eq_some_iff] at hu hl
    obtain ⟨y, hy, rfl⟩ := hu
    obtain ⟨z, hz, rfl⟩ := hl
    rw [hy] at hz; injection hz with hz; subst hz
    unfold Pk.text at hr ⊢
    exact layText_calls g y v xs w hh (by simp only [List.length_append] at hr; omega))).mono ?_
  rintro e w' ⟨rfl, hw⟩
  go_wp2_with fail
  go_end0
  exact ⟨rfl, hw.of_alloc⟩

set_option maxHeartbeats 1000000 in
set_option maxRecDepth 100000 in
theorem lay_16 (g : Nat) (x : St) (v : Value) (xs : List UInt8) (w : World) (h : IsW w g v xs) (hx : x.Ok w) (hf : x.Far g v) (hk : Hid (x.kind = 16)) (hroom : xs.length + ((Pk.free x.an ++ (x.parts.map Pk.text).flatten)).length ≤ 140737488354000) :
    Calls Try.prog 18 #[.pointer (some ⟨g, 0, none⟩), .agg x.cells] w fun e w' => e = .returned (.tuple #[]) ∧ Wrote w w' g v (xs ++ (Pk.free x.an ++ (x.parts.map Pk.text).flatten)) := by
  have hpl := Lib.hid hx.pl
  have hnl := Lib.hid hx.nl
  obtain ⟨kind, n, i, s, A, an, ac, parts, B, bn, bc, ns, width, most, bound⟩ := x
  obtain ⟨hn, hi, hkk, hwd, hmo, hbo, hA, hB, hns, hrm⟩ := hx
  obtain ⟨fA, fB⟩ := hf
  unfold St.cells
  dsimp only at *
  obtain ⟨rfl⟩ := hk
  go_enter Try.func18, Try.ntmps18
  go_wp2_with fail
  refine (each_string g 60 A an ac (strs parts) (parts.map Pk.text) v xs _ (h.alloc _) (hA.alloc _) (by simp [hpl.out]) fA (by omega) (by simp only [List.length_append] at hroom; omega) (fun _ _ => by kernel_rfl) (fun j u l hu hl v xs w hh hr => by
    simp only [strs, List.getElem?_map, Option.map_eq_some_iff] at hu hl
    obtain ⟨y, hy, rfl⟩ := hu
    obtain ⟨z, hz, rfl⟩ := hl
    rw [hy] at hz; injection hz with hz; subst hz
    unfold Pk.text at hr ⊢
    exact layBytes_calls g y v xs w hh (by have := flat_le (List.mem_of_getElem? hy); omega) (by simp only [List.length_append] at hr; omega))).mono ?_
  rintro e w' ⟨rfl, hw⟩
  go_wp2_with fail
  go_end0
  exact ⟨rfl, hw.of_alloc⟩

set_option maxHeartbeats 1000000 in
set_option maxRecDepth 100000 in
theorem lay_13 (g : Nat) (x : St) (v : Value) (xs : List UInt8) (w : World) (h : IsW w g v xs) (hx : x.Ok w) (hf : x.Far g v) (hk : Hid (x.kind = 13)) (hroom : xs.length + ((dig x.s).take (wd x.width)).length ≤ 140737488354000) :
    Calls Try.prog 18 #[.pointer (some ⟨g, 0, none⟩), .agg x.cells] w fun e w' => e = .returned (.tuple #[]) ∧ Wrote w w' g v (xs ++ (dig x.s).take (wd x.width)) := by
  have hpl := Lib.hid hx.pl
  have hnl := Lib.hid hx.nl
  obtain ⟨kind, n, i, s, A, an, ac, parts, B, bn, bc, ns, width, most, bound⟩ := x
  obtain ⟨hn, hi, hkk, hwd, hmo, hbo, hA, hB, hns, hrm⟩ := hx
  obtain ⟨fA, fB⟩ := hf
  unfold St.cells
  dsimp only at *
  obtain ⟨rfl⟩ := hk
  go_enter Try.func18, Try.ntmps18
  go_wp2_with fail
  go_region_with (first
    | (go_at_call 57; refine (digest_calls s _ (by omega)).mono ?_; rintro e w1 ⟨rfl, c1⟩; have a6 := c1.cell (p := ⟨w.heap.size, 6, none⟩) (by simp) (fun h => h); have a3 := c1.cell (p := ⟨w.heap.size, 3, none⟩) (by simp) (fun h => h))
    | (go_at_call 56; refine (wdigest_calls g width (dig s) v xs _ ?_ ?_ ?_).mono ?_; exact h.chg (((Chg.refl _ w).alloc _).drew.trans c1); exact dig_length s; omega; rintro e w2 ⟨rfl, hw⟩))
  all_goals (go_wp2_with fail; go_end0; exact ⟨rfl, hw.of_chg (((Chg.refl _ w).alloc _).drew.trans c1)⟩)

set_option maxHeartbeats 1000000 in
set_option maxRecDepth 100000 in
theorem lay_no (g : Nat) (x : St) (v : Value) (xs : List UInt8) (w : World) (h : IsW w g v xs) (hx : x.Ok w) (hf : x.Far g v) (hk : ∀ k : Nat, k ≤ 16 → x.kind ≠ k) (hroom : xs.length + (([] : List UInt8)).length ≤ 140737488354000) :
    Calls Try.prog 18 #[.pointer (some ⟨g, 0, none⟩), .agg x.cells] w fun e w' => e = .returned (.tuple #[]) ∧ Wrote w w' g v (xs ++ ([] : List UInt8)) := by
  have hpl := Lib.hid hx.pl
  have hnl := Lib.hid hx.nl
  obtain ⟨kind, n, i, s, A, an, ac, parts, B, bn, bc, ns, width, most, bound⟩ := x
  obtain ⟨hn, hi, hkk, hwd, hmo, hbo, hA, hB, hns, hrm⟩ := hx
  obtain ⟨fA, fB⟩ := hf
  unfold St.cells
  dsimp only at *
  have q0 : (kind == 0) = false := by rw [beq_eq_false_iff_ne]; exact hk 0 (by omega)
  have q1 : (kind == 1) = false := by rw [beq_eq_false_iff_ne]; exact hk 1 (by omega)
  have q2 : (kind == 2) = false := by rw [beq_eq_false_iff_ne]; exact hk 2 (by omega)
  have q3 : (kind == 3) = false := by rw [beq_eq_false_iff_ne]; exact hk 3 (by omega)
  have q4 : (kind == 4) = false := by rw [beq_eq_false_iff_ne]; exact hk 4 (by omega)
  have q5 : (kind == 5) = false := by rw [beq_eq_false_iff_ne]; exact hk 5 (by omega)
  have q6 : (kind == 6) = false := by rw [beq_eq_false_iff_ne]; exact hk 6 (by omega)
  have q7 : (kind == 7) = false := by rw [beq_eq_false_iff_ne]; exact hk 7 (by omega)
  have q8 : (kind == 8) = false := by rw [beq_eq_false_iff_ne]; exact hk 8 (by omega)
  have q9 : (kind == 9) = false := by rw [beq_eq_false_iff_ne]; exact hk 9 (by omega)
  have q10 : (kind == 10) = false := by rw [beq_eq_false_iff_ne]; exact hk 10 (by omega)
  have q11 : (kind == 11) = false := by rw [beq_eq_false_iff_ne]; exact hk 11 (by omega)
  have q12 : (kind == 12) = false := by rw [beq_eq_false_iff_ne]; exact hk 12 (by omega)
  have q13 : (kind == 13) = false := by rw [beq_eq_false_iff_ne]; exact hk 13 (by omega)
  have q14 : (kind == 14) = false := by rw [beq_eq_false_iff_ne]; exact hk 14 (by omega)
  have q15 : (kind == 15) = false := by rw [beq_eq_false_iff_ne]; exact hk 15 (by omega)
  have q16 : (kind == 16) = false := by rw [beq_eq_false_iff_ne]; exact hk 16 (by omega)
  clear hk
  go_enter Try.func18, Try.ntmps18
  go_wp2_with fail
  go_end0
  exact ⟨rfl, Wrote.of_alloc (by simpa using Wrote.refl (h.alloc _))⟩

/-- a Step's bytes -/
def St.bytes (x : St) : List UInt8 :=
  if x.kind < 0 ∨ 16 < x.kind then [] else match x.kind.toNat with
  | 0 => Pk.be 1 x.n | 1 => Pk.be 2 x.n | 2 => Pk.be 4 x.n | 3 => Pk.be 8 x.n | 4 => Pk.be 1 x.n | 5 => Pk.be 2 x.n | 6 => Pk.be 4 x.n | 7 => Pk.be 8 x.n | 8 => Pk.be 2 x.n
  | 9 => Pk.free x.n | 10 => Pk.free (Pk.zig x.i) | 11 => x.parts.flatten | 12 => Pk.free x.s.length ++ x.s | 13 => (dig x.s).take (wd x.width)
  | 14 => Pk.free x.bn ++ (x.ns.map Pk.free).flatten | _ => Pk.free x.an ++ (x.parts.map Pk.text).flatten
theorem St.bytes_no {x : St} (h : x.kind < 0 ∨ 16 < x.kind) : x.bytes = [] := by unfold St.bytes; rw [if_pos h]
theorem lay_calls (g : Nat) (x : St) (v : Value) (xs : List UInt8) (w : World) (h : IsW w g v xs) (hx : x.Ok w) (hf : x.Far g v) (hroom : xs.length + x.bytes.length ≤ 140737488354000) :
    Calls Try.prog 18 #[.pointer (some ⟨g, 0, none⟩), .agg x.cells] w fun e w' => e = .returned (.tuple #[]) ∧ Wrote w w' g v (xs ++ x.bytes) := by
  by_cases hno : x.kind < 0 ∨ 16 < x.kind
  · rw [St.bytes_no hno] at hroom ⊢
    exact lay_no g x v xs w h hx hf (fun k hk => by omega) hroom
  · obtain ⟨k, hk⟩ : ∃ k : Nat, x.kind = k := ⟨x.kind.toNat, by omega⟩
    have hk16 : k ≤ 16 := by omega
    match k, hk16 with
    | 0, _ =>
      have hb : x.bytes = Pk.be 1 x.n := by unfold St.bytes; rw [if_neg hno, hk]; rfl
      rw [hb] at hroom ⊢
      exact lay_0 g x v xs w h hx hf (Lib.hid hk) hroom
    | 1, _ =>
      have hb : x.bytes = Pk.be 2 x.n := by unfold St.bytes; rw [if_neg hno, hk]; rfl
      rw [hb] at hroom ⊢
      exact lay_1 g x v xs w h hx hf (Lib.hid hk) hroom
    | 2, _ =>
      have hb : x.bytes = Pk.be 4 x.n := by unfold St.bytes; rw [if_neg hno, hk]; rfl
      rw [hb] at hroom ⊢
      exact lay_2 g x v xs w h hx hf (Lib.hid hk) hroom
    | 3, _ =>
      have hb : x.bytes = Pk.be 8 x.n := by unfold St.bytes; rw [if_neg hno, hk]; rfl
      rw [hb] at hroom ⊢
      exact lay_3 g x v xs w h hx hf (Lib.hid hk) hroom
    | 4, _ =>
      have hb : x.bytes = Pk.be 1 x.n := by unfold St.bytes; rw [if_neg hno, hk]; rfl
      rw [hb] at hroom ⊢
      exact lay_4 g x v xs w h hx hf (Lib.hid hk) hroom
    | 5, _ =>
      have hb : x.bytes = Pk.be 2 x.n := by unfold St.bytes; rw [if_neg hno, hk]; rfl
      rw [hb] at hroom ⊢
      exact lay_5 g x v xs w h hx hf (Lib.hid hk) hroom
    | 6, _ =>
      have hb : x.bytes = Pk.be 4 x.n := by unfold St.bytes; rw [if_neg hno, hk]; rfl
      rw [hb] at hroom ⊢
      exact lay_6 g x v xs w h hx hf (Lib.hid hk) hroom
    | 7, _ =>
      have hb : x.bytes = Pk.be 8 x.n := by unfold St.bytes; rw [if_neg hno, hk]; rfl
      rw [hb] at hroom ⊢
      exact lay_7 g x v xs w h hx hf (Lib.hid hk) hroom
    | 8, _ =>
      have hb : x.bytes = Pk.be 2 x.n := by unfold St.bytes; rw [if_neg hno, hk]; rfl
      rw [hb] at hroom ⊢
      exact lay_8 g x v xs w h hx hf (Lib.hid hk) hroom
    | 9, _ =>
      have hb : x.bytes = Pk.free x.n := by unfold St.bytes; rw [if_neg hno, hk]; rfl
      rw [hb] at hroom ⊢
      exact lay_9 g x v xs w h hx hf (Lib.hid hk) hroom
    | 10, _ =>
      have hb : x.bytes = Pk.free (Pk.zig x.i) := by unfold St.bytes; rw [if_neg hno, hk]; rfl
      rw [hb] at hroom ⊢
      exact lay_10 g x v xs w h hx hf (Lib.hid hk) hroom
    | 11, _ =>
      have hb : x.bytes = x.parts.flatten := by unfold St.bytes; rw [if_neg hno, hk]; rfl
      rw [hb] at hroom ⊢
      exact lay_11 g x v xs w h hx hf (Lib.hid hk) hroom
    | 12, _ =>
      have hb : x.bytes = (Pk.free x.s.length ++ x.s) := by unfold St.bytes; rw [if_neg hno, hk]; rfl
      rw [hb] at hroom ⊢
      exact lay_12 g x v xs w h hx hf (Lib.hid hk) hroom
    | 13, _ =>
      have hb : x.bytes = (dig x.s).take (wd x.width) := by unfold St.bytes; rw [if_neg hno, hk]; rfl
      rw [hb] at hroom ⊢
      exact lay_13 g x v xs w h hx hf (Lib.hid hk) hroom
    | 14, _ =>
      have hb : x.bytes = (Pk.free x.bn ++ (x.ns.map Pk.free).flatten) := by unfold St.bytes; rw [if_neg hno, hk]; rfl
      rw [hb] at hroom ⊢
      exact lay_14 g x v xs w h hx hf (Lib.hid hk) hroom
    | 15, _ =>
      have hb : x.bytes = (Pk.free x.an ++ (x.parts.map Pk.text).flatten) := by unfold St.bytes; rw [if_neg hno, hk]; rfl
      rw [hb] at hroom ⊢
      exact lay_15 g x v xs w h hx hf (Lib.hid hk) hroom
    | 16, _ =>
      have hb : x.bytes = (Pk.free x.an ++ (x.parts.map Pk.text).flatten) := by unfold St.bytes; rw [if_neg hno, hk]; rfl
      rw [hb] at hroom ⊢
      exact lay_16 g x v xs w h hx hf (Lib.hid hk) hroom
    | _ + 17, h => exact absurd h (by omega)
end Go.Proofs.Ytkajbpdhglaieaa
