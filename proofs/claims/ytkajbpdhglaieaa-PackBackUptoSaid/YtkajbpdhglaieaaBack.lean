/-
  heartwoodlaw01.back: a Step that was laid is read back; one walk for each kind. Printed by gen_back.py.
-/
import Derived.Test.YtkajbpdhglaieaaPure
import Derived.Test.YtkajbpdhglaieaaLaid
import Derived.Test.YtkajbpdhglaieaaRend
namespace Go.Proofs.Ytkajbpdhglaieaa
open Go.RowKit
set_option linter.unusedVariables false
theorem unzig_zig (n : Int) : unzig (Pk.zig n) = n := by unfold Pk.zig unzig; split <;> split <;> omega
set_option maxHeartbeats 1000000 in
set_option maxRecDepth 100000 in
theorem back15_reads (g : Nat) : Reads1 (fun x : List UInt8 => S x) (fun r => r.text 1099511627776) (fun _ => False) (fun _ _ => True) g 85 #[] := by
  intro k r w h hf _
  show Calls _ _ #[.pointer (some ⟨g, 0, none⟩)] _ _
  go_enter Try.func85, Try.ntmps85
  go_wp2_with fail
  refine (rtext_calls g 1099511627776 r w h (by unfold I64; omega)).mono ?_
  rintro e w1 ⟨rfl, h1, hc1⟩
  go_wp2_with fail
  go_ret
  exact ⟨rfl, h1, rtext_s r _, hc1.mono fun _ _ h => .inl h, trivial⟩
theorem rsigned_back (g : Nat) (i : Int) (q r : Pk.Rd) (w : World) (h : IsR w g r) (hf : r.free 18446744073709551615 = (Pk.zig i, q)) :
    Calls Try.prog 32 #[.pointer (some ⟨g, 0, none⟩)] w fun e w' => e = .returned (.int .i64 i) ∧ Red w w' g q :=
  (rsigned_calls g r w h).mono fun e w' ⟨he, hr⟩ => by rw [hf] at hr he; exact ⟨by rw [he]; dsimp only; rw [unzig_zig], hr⟩

set_option maxHeartbeats 2000000 in
set_option maxRecDepth 100000 in
theorem back_0 (gr : Nat) (x : St) (r : Pk.Rd) (t : List UInt8) (w0 w : World) (hr : MineR w0 w gr r) (hx : x.Ok w0) (hat : At r (Pk.be 1 x.n) t) (hlen : r.s.length ≤ 4398046511104) (hk : Hid (x.kind = 0)) :
    Calls Try.prog 41 #[.pointer (some ⟨gr, 0, none⟩), .agg x.cells] w fun e w' => e = .returned (.bool true) ∧ MineR w0 w' gr ⟨r.s, r.pos + (Pk.be 1 x.n).length, 0⟩ := by
  have hpl := Lib.hid hx.pl
  have hnl := Lib.hid hx.nl
  obtain ⟨kind, n, i, s, A, an, ac, parts, B, bn, bc, ns, width, most, bound⟩ := x
  obtain ⟨hn, hi, hkk, hwd, hmo, hbo, hA, hB, hns, hrm⟩ := hx
  unfold St.cells
  dsimp only at *
  have hAg : 0 < an → ∀ ad, A = some ad → ad.block = gr → False := fun hn ad ha e => by have := hA.lt hn ad ha; have := hr.g0; omega
  have hBg : 0 < bn → ∀ ad, B = some ad → ad.block = gr → False := fun hn ad ha e => by have := hB.lt hn ad ha; have := hr.g0; omega
  have hA := hA.chg0 hr.chg
  have hB := hB.chg0 hr.chg
  have hle := hr.is.le
  have hgr0 := hr.is.blk.lt
  obtain ⟨rfl⟩ := hk
  go_enter Try.func41, Try.ntmps41
  go_wp2_with fail
  refine (size_calls _ _).mono ?_
  rintro e w1 ⟨rfl, c1⟩
  have hz : sz 0 = 1 := rfl
  rw [hz]
  clear hz
  have k0 : w1.cell? ⟨w.heap.size, 0, none⟩ = some (.int .i64 0) := cells_keep c1 0
  have k1 : w1.cell? ⟨w.heap.size, 1, none⟩ = some (.int .u64 n) := cells_keep c1 1
  have hA := (hA.alloc _).chg0 c1
  have hB := (hB.alloc _).chg0 c1
  have hr := hr.below (((Chg.refl _ w).alloc _).trans c1)
  have hbg : ¬ (w.heap.size = gr) := fun e => by have := hgr0; omega
  have hgne : gr ≠ w.heap.size := by omega
  have hbs := Blk.lt (((Blk.new w 39 _).chg c1 (fun h => h)))
  obtain ⟨m, hm⟩ : ∃ m, m = n % 256 ^ 1 := ⟨_, rfl⟩
  have htk := hat.take
  rw [← hm] at htk
  have Htk := Lib.hid htk
  have e1 : (n : Int) % 256 = (m : Int) := by rw [show (256 : Nat) ^ 1 = 256 from rfl] at hm; omega
  clear htk hm
  go_wp2_with fail
  refine (fixed_calls gr 0 r _ hr.is).mono ?_
  rintro e w2 ⟨rfl, hred⟩
  rw [show fz 0 = 1 from rfl] at hred ⊢
  rw [Htk.out] at hred ⊢
  have hr2 := hr.red hred
  go_wp2_with fail
  go_ret
  exact ⟨rfl, by rw [Pk.be_length]; exact hr2⟩

set_option maxHeartbeats 2000000 in
set_option maxRecDepth 100000 in
theorem back_1 (gr : Nat) (x : St) (r : Pk.Rd) (t : List UInt8) (w0 w : World) (hr : MineR w0 w gr r) (hx : x.Ok w0) (hat : At r (Pk.be 2 x.n) t) (hlen : r.s.length ≤ 4398046511104) (hk : Hid (x.kind = 1)) :
    Calls Try.prog 41 #[.pointer (some ⟨gr, 0, none⟩), .agg x.cells] w fun e w' => e = .returned (.bool true) ∧ MineR w0 w' gr ⟨r.s, r.pos + (Pk.be 2 x.n).length, 0⟩ := by
  have hpl := Lib.hid hx.pl
  have hnl := Lib.hid hx.nl
  obtain ⟨kind, n, i, s, A, an, ac, parts, B, bn, bc, ns, width, most, bound⟩ := x
  obtain ⟨hn, hi, hkk, hwd, hmo, hbo, hA, hB, hns, hrm⟩ := hx
  unfold St.cells
  dsimp only at *
  have hAg : 0 < an → ∀ ad, A = some ad → ad.block = gr → False := fun hn ad ha e => by have := hA.lt hn ad ha; have := hr.g0; omega
  have hBg : 0 < bn → ∀ ad, B = some ad → ad.block = gr → False := fun hn ad ha e => by have := hB.lt hn ad ha; have := hr.g0; omega
  have hA := hA.chg0 hr.chg
  have hB := hB.chg0 hr.chg
  have hle := hr.is.le
  have hgr0 := hr.is.blk.lt
  obtain ⟨rfl⟩ := hk
  go_enter Try.func41, Try.ntmps41
  go_wp2_with fail
  refine (size_calls _ _).mono ?_
  rintro e w1 ⟨rfl, c1⟩
  have hz : sz 1 = 2 := rfl
  rw [hz]
  clear hz
  have k0 : w1.cell? ⟨w.heap.size, 0, none⟩ = some (.int .i64 1) := cells_keep c1 0
  have k1 : w1.cell? ⟨w.heap.size, 1, none⟩ = some (.int .u64 n) := cells_keep c1 1
  have hA := (hA.alloc _).chg0 c1
  have hB := (hB.alloc _).chg0 c1
  have hr := hr.below (((Chg.refl _ w).alloc _).trans c1)
  have hbg : ¬ (w.heap.size = gr) := fun e => by have := hgr0; omega
  have hgne : gr ≠ w.heap.size := by omega
  have hbs := Blk.lt (((Blk.new w 39 _).chg c1 (fun h => h)))
  obtain ⟨m, hm⟩ : ∃ m, m = n % 256 ^ 2 := ⟨_, rfl⟩
  have htk := hat.take
  rw [← hm] at htk
  have Htk := Lib.hid htk
  have e1 : (n : Int) % 65536 = (m : Int) := by rw [show (256 : Nat) ^ 2 = 65536 from rfl] at hm; omega
  clear htk hm
  go_wp2_with fail
  refine (fixed_calls gr 1 r _ hr.is).mono ?_
  rintro e w2 ⟨rfl, hred⟩
  rw [show fz 1 = 2 from rfl] at hred ⊢
  rw [Htk.out] at hred ⊢
  have hr2 := hr.red hred
  go_wp2_with fail
  go_ret
  exact ⟨rfl, by rw [Pk.be_length]; exact hr2⟩

set_option maxHeartbeats 2000000 in
set_option maxRecDepth 100000 in
theorem back_2 (gr : Nat) (x : St) (r : Pk.Rd) (t : List UInt8) (w0 w : World) (hr : MineR w0 w gr r) (hx : x.Ok w0) (hat : At r (Pk.be 4 x.n) t) (hlen : r.s.length ≤ 4398046511104) (hk : Hid (x.kind = 2)) :
    Calls Try.prog 41 #[.pointer (some ⟨gr, 0, none⟩), .agg x.cells] w fun e w' => e = .returned (.bool true) ∧ MineR w0 w' gr ⟨r.s, r.pos + (Pk.be 4 x.n).length, 0⟩ := by
  have hpl := Lib.hid hx.pl
  have hnl := Lib.hid hx.nl
  obtain ⟨kind, n, i, s, A, an, ac, parts, B, bn, bc, ns, width, most, bound⟩ := x
  obtain ⟨hn, hi, hkk, hwd, hmo, hbo, hA, hB, hns, hrm⟩ := hx
  unfold St.cells
  dsimp only at *
  have hAg : 0 < an → ∀ ad, A = some ad → ad.block = gr → False := fun hn ad ha e => by have := hA.lt hn ad ha; have := hr.g0; omega
  have hBg : 0 < bn → ∀ ad, B = some ad → ad.block = gr → False := fun hn ad ha e => by have := hB.lt hn ad ha; have := hr.g0; omega
  have hA := hA.chg0 hr.chg
  have hB := hB.chg0 hr.chg
  have hle := hr.is.le
  have hgr0 := hr.is.blk.lt
  obtain ⟨rfl⟩ := hk
  go_enter Try.func41, Try.ntmps41
  go_wp2_with fail
  refine (size_calls _ _).mono ?_
  rintro e w1 ⟨rfl, c1⟩
  have hz : sz 2 = 4 := rfl
  rw [hz]
  clear hz
  have k0 : w1.cell? ⟨w.heap.size, 0, none⟩ = some (.int .i64 2) := cells_keep c1 0
  have k1 : w1.cell? ⟨w.heap.size, 1, none⟩ = some (.int .u64 n) := cells_keep c1 1
  have hA := (hA.alloc _).chg0 c1
  have hB := (hB.alloc _).chg0 c1
  have hr := hr.below (((Chg.refl _ w).alloc _).trans c1)
  have hbg : ¬ (w.heap.size = gr) := fun e => by have := hgr0; omega
  have hgne : gr ≠ w.heap.size := by omega
  have hbs := Blk.lt (((Blk.new w 39 _).chg c1 (fun h => h)))
  obtain ⟨m, hm⟩ : ∃ m, m = n % 256 ^ 4 := ⟨_, rfl⟩
  have htk := hat.take
  rw [← hm] at htk
  have Htk := Lib.hid htk
  have e1 : (n : Int) % 4294967296 = (m : Int) := by rw [show (256 : Nat) ^ 4 = 4294967296 from rfl] at hm; omega
  clear htk hm
  go_wp2_with fail
  refine (fixed_calls gr 2 r _ hr.is).mono ?_
  rintro e w2 ⟨rfl, hred⟩
  rw [show fz 2 = 4 from rfl] at hred ⊢
  rw [Htk.out] at hred ⊢
  have hr2 := hr.red hred
  go_wp2_with fail
  go_ret
  exact ⟨rfl, by rw [Pk.be_length]; exact hr2⟩

set_option maxHeartbeats 2000000 in
set_option maxRecDepth 100000 in
theorem back_3 (gr : Nat) (x : St) (r : Pk.Rd) (t : List UInt8) (w0 w : World) (hr : MineR w0 w gr r) (hx : x.Ok w0) (hat : At r (Pk.be 8 x.n) t) (hlen : r.s.length ≤ 4398046511104) (hk : Hid (x.kind = 3)) :
    Calls Try.prog 41 #[.pointer (some ⟨gr, 0, none⟩), .agg x.cells] w fun e w' => e = .returned (.bool true) ∧ MineR w0 w' gr ⟨r.s, r.pos + (Pk.be 8 x.n).length, 0⟩ := by
  have hpl := Lib.hid hx.pl
  have hnl := Lib.hid hx.nl
  obtain ⟨kind, n, i, s, A, an, ac, parts, B, bn, bc, ns, width, most, bound⟩ := x
  obtain ⟨hn, hi, hkk, hwd, hmo, hbo, hA, hB, hns, hrm⟩ := hx
  unfold St.cells
  dsimp only at *
  have hAg : 0 < an → ∀ ad, A = some ad → ad.block = gr → False := fun hn ad ha e => by have := hA.lt hn ad ha; have := hr.g0; omega
  have hBg : 0 < bn → ∀ ad, B = some ad → ad.block = gr → False := fun hn ad ha e => by have := hB.lt hn ad ha; have := hr.g0; omega
  have hA := hA.chg0 hr.chg
  have hB := hB.chg0 hr.chg
  have hle := hr.is.le
  have hgr0 := hr.is.blk.lt
  obtain ⟨rfl⟩ := hk
  go_enter Try.func41, Try.ntmps41
  go_wp2_with fail
  refine (size_calls _ _).mono ?_
  rintro e w1 ⟨rfl, c1⟩
  have hz : sz 3 = 8 := rfl
  rw [hz]
  clear hz
  have k0 : w1.cell? ⟨w.heap.size, 0, none⟩ = some (.int .i64 3) := cells_keep c1 0
  have k1 : w1.cell? ⟨w.heap.size, 1, none⟩ = some (.int .u64 n) := cells_keep c1 1
  have hA := (hA.alloc _).chg0 c1
  have hB := (hB.alloc _).chg0 c1
  have hr := hr.below (((Chg.refl _ w).alloc _).trans c1)
  have hbg : ¬ (w.heap.size = gr) := fun e => by have := hgr0; omega
  have hgne : gr ≠ w.heap.size := by omega
  have hbs := Blk.lt (((Blk.new w 39 _).chg c1 (fun h => h)))
  obtain ⟨m, hm⟩ : ∃ m, m = n % 256 ^ 8 := ⟨_, rfl⟩
  have htk := hat.take
  rw [← hm] at htk
  have Htk := Lib.hid htk
  obtain rfl : m = n := by unfold U64 at hn; rw [show (256 : Nat) ^ 8 = 18446744073709551616 from rfl] at hm; omega
  clear htk hm
  go_wp2_with fail
  refine (fixed_calls gr 3 r _ hr.is).mono ?_
  rintro e w2 ⟨rfl, hred⟩
  rw [show fz 3 = 8 from rfl] at hred ⊢
  rw [Htk.out] at hred ⊢
  have hr2 := hr.red hred
  go_wp2_with fail
  go_ret
  exact ⟨rfl, by rw [Pk.be_length]; exact hr2⟩

set_option maxHeartbeats 2000000 in
set_option maxRecDepth 100000 in
theorem back_4 (gr : Nat) (x : St) (r : Pk.Rd) (t : List UInt8) (w0 w : World) (hr : MineR w0 w gr r) (hx : x.Ok w0) (hat : At r (Pk.be 1 x.n) t) (hlen : r.s.length ≤ 4398046511104) (hk : Hid (x.kind = 4)) :
    Calls Try.prog 41 #[.pointer (some ⟨gr, 0, none⟩), .agg x.cells] w fun e w' => e = .returned (.bool true) ∧ MineR w0 w' gr ⟨r.s, r.pos + (Pk.be 1 x.n).length, 0⟩ := by
  have hpl := Lib.hid hx.pl
  have hnl := Lib.hid hx.nl
  obtain ⟨kind, n, i, s, A, an, ac, parts, B, bn, bc, ns, width, most, bound⟩ := x
  obtain ⟨hn, hi, hkk, hwd, hmo, hbo, hA, hB, hns, hrm⟩ := hx
  unfold St.cells
  dsimp only at *
  have hAg : 0 < an → ∀ ad, A = some ad → ad.block = gr → False := fun hn ad ha e => by have := hA.lt hn ad ha; have := hr.g0; omega
  have hBg : 0 < bn → ∀ ad, B = some ad → ad.block = gr → False := fun hn ad ha e => by have := hB.lt hn ad ha; have := hr.g0; omega
  have hA := hA.chg0 hr.chg
  have hB := hB.chg0 hr.chg
  have hle := hr.is.le
  have hgr0 := hr.is.blk.lt
  obtain ⟨rfl⟩ := hk
  go_enter Try.func41, Try.ntmps41
  go_wp2_with fail
  refine (size_calls _ _).mono ?_
  rintro e w1 ⟨rfl, c1⟩
  have hz : sz 4 = 1 := rfl
  rw [hz]
  clear hz
  have k0 : w1.cell? ⟨w.heap.size, 0, none⟩ = some (.int .i64 4) := cells_keep c1 0
  have k1 : w1.cell? ⟨w.heap.size, 1, none⟩ = some (.int .u64 n) := cells_keep c1 1
  have hA := (hA.alloc _).chg0 c1
  have hB := (hB.alloc _).chg0 c1
  have hr := hr.below (((Chg.refl _ w).alloc _).trans c1)
  have hbg : ¬ (w.heap.size = gr) := fun e => by have := hgr0; omega
  have hgne : gr ≠ w.heap.size := by omega
  have hbs := Blk.lt (((Blk.new w 39 _).chg c1 (fun h => h)))
  obtain ⟨m, hm⟩ : ∃ m, m = n % 256 ^ 1 := ⟨_, rfl⟩
  have htk := hat.take
  rw [← hm] at htk
  have Htk := Lib.hid htk
  have e1 : (n : Int) % 256 = (m : Int) := by rw [show (256 : Nat) ^ 1 = 256 from rfl] at hm; omega
  clear htk hm
  go_wp2_with fail
  refine (fixed_calls gr 4 r _ hr.is).mono ?_
  rintro e w2 ⟨rfl, hred⟩
  rw [show fz 4 = 1 from rfl] at hred ⊢
  rw [Htk.out] at hred ⊢
  have hr2 := hr.red hred
  go_wp2_with fail
  go_ret
  exact ⟨rfl, by rw [Pk.be_length]; exact hr2⟩

set_option maxHeartbeats 2000000 in
set_option maxRecDepth 100000 in
theorem back_5 (gr : Nat) (x : St) (r : Pk.Rd) (t : List UInt8) (w0 w : World) (hr : MineR w0 w gr r) (hx : x.Ok w0) (hat : At r (Pk.be 2 x.n) t) (hlen : r.s.length ≤ 4398046511104) (hk : Hid (x.kind = 5)) :
    Calls Try.prog 41 #[.pointer (some ⟨gr, 0, none⟩), .agg x.cells] w fun e w' => e = .returned (.bool true) ∧ MineR w0 w' gr ⟨r.s, r.pos + (Pk.be 2 x.n).length, 0⟩ := by
  have hpl := Lib.hid hx.pl
  have hnl := Lib.hid hx.nl
  obtain ⟨kind, n, i, s, A, an, ac, parts, B, bn, bc, ns, width, most, bound⟩ := x
  obtain ⟨hn, hi, hkk, hwd, hmo, hbo, hA, hB, hns, hrm⟩ := hx
  unfold St.cells
  dsimp only at *
  have hAg : 0 < an → ∀ ad, A = some ad → ad.block = gr → False := fun hn ad ha e => by have := hA.lt hn ad ha; have := hr.g0; omega
  have hBg : 0 < bn → ∀ ad, B = some ad → ad.block = gr → False := fun hn ad ha e => by have := hB.lt hn ad ha; have := hr.g0; omega
  have hA := hA.chg0 hr.chg
  have hB := hB.chg0 hr.chg
  have hle := hr.is.le
  have hgr0 := hr.is.blk.lt
  obtain ⟨rfl⟩ := hk
  go_enter Try.func41, Try.ntmps41
  go_wp2_with fail
  refine (size_calls _ _).mono ?_
  rintro e w1 ⟨rfl, c1⟩
  have hz : sz 5 = 2 := rfl
  rw [hz]
  clear hz
  have k0 : w1.cell? ⟨w.heap.size, 0, none⟩ = some (.int .i64 5) := cells_keep c1 0
  have k1 : w1.cell? ⟨w.heap.size, 1, none⟩ = some (.int .u64 n) := cells_keep c1 1
  have hA := (hA.alloc _).chg0 c1
  have hB := (hB.alloc _).chg0 c1
  have hr := hr.below (((Chg.refl _ w).alloc _).trans c1)
  have hbg : ¬ (w.heap.size = gr) := fun e => by have := hgr0; omega
  have hgne : gr ≠ w.heap.size := by omega
  have hbs := Blk.lt (((Blk.new w 39 _).chg c1 (fun h => h)))
  obtain ⟨m, hm⟩ : ∃ m, m = n % 256 ^ 2 := ⟨_, rfl⟩
  have htk := hat.take
  rw [← hm] at htk
  have Htk := Lib.hid htk
  have e1 : (n : Int) % 65536 = (m : Int) := by rw [show (256 : Nat) ^ 2 = 65536 from rfl] at hm; omega
  clear htk hm
  go_wp2_with fail
  refine (fixed_calls gr 5 r _ hr.is).mono ?_
  rintro e w2 ⟨rfl, hred⟩
  rw [show fz 5 = 2 from rfl] at hred ⊢
  rw [Htk.out] at hred ⊢
  have hr2 := hr.red hred
  go_wp2_with fail
  go_ret
  exact ⟨rfl, by rw [Pk.be_length]; exact hr2⟩

set_option maxHeartbeats 2000000 in
set_option maxRecDepth 100000 in
theorem back_6 (gr : Nat) (x : St) (r : Pk.Rd) (t : List UInt8) (w0 w : World) (hr : MineR w0 w gr r) (hx : x.Ok w0) (hat : At r (Pk.be 4 x.n) t) (hlen : r.s.length ≤ 4398046511104) (hk : Hid (x.kind = 6)) :
    Calls Try.prog 41 #[.pointer (some ⟨gr, 0, none⟩), .agg x.cells] w fun e w' => e = .returned (.bool true) ∧ MineR w0 w' gr ⟨r.s, r.pos + (Pk.be 4 x.n).length, 0⟩ := by
  have hpl := Lib.hid hx.pl
  have hnl := Lib.hid hx.nl
  obtain ⟨kind, n, i, s, A, an, ac, parts, B, bn, bc, ns, width, most, bound⟩ := x
  obtain ⟨hn, hi, hkk, hwd, hmo, hbo, hA, hB, hns, hrm⟩ := hx
  unfold St.cells
  dsimp only at *
  have hAg : 0 < an → ∀ ad, A = some ad → ad.block = gr → False := fun hn ad ha e => by have := hA.lt hn ad ha; have := hr.g0; omega
  have hBg : 0 < bn → ∀ ad, B = some ad → ad.block = gr → False := fun hn ad ha e => by have := hB.lt hn ad ha; have := hr.g0; omega
  have hA := hA.chg0 hr.chg
  have hB := hB.chg0 hr.chg
  have hle := hr.is.le
  have hgr0 := hr.is.blk.lt
  obtain ⟨rfl⟩ := hk
  go_enter Try.func41, Try.ntmps41
  go_wp2_with fail
  refine (size_calls _ _).mono ?_
  rintro e w1 ⟨rfl, c1⟩
  have hz : sz 6 = 4 := rfl
  rw [hz]
  clear hz
  have k0 : w1.cell? ⟨w.heap.size, 0, none⟩ = some (.int .i64 6) := cells_keep c1 0
  have k1 : w1.cell? ⟨w.heap.size, 1, none⟩ = some (.int .u64 n) := cells_keep c1 1
  have hA := (hA.alloc _).chg0 c1
  have hB := (hB.alloc _).chg0 c1
  have hr := hr.below (((Chg.refl _ w).alloc _).trans c1)
  have hbg : ¬ (w.heap.size = gr) := fun e => by have := hgr0; omega
  have hgne : gr ≠ w.heap.size := by omega
  have hbs := Blk.lt (((Blk.new w 39 _).chg c1 (fun h => h)))
  obtain ⟨m, hm⟩ : ∃ m, m = n % 256 ^ 4 := ⟨_, rfl⟩
  have htk := hat.take
  rw [← hm] at htk
  have Htk := Lib.hid htk
  have e1 : (n : Int) % 4294967296 = (m : Int) := by rw [show (256 : Nat) ^ 4 = 4294967296 from rfl] at hm; omega
  clear htk hm
  go_wp2_with fail
  refine (fixed_calls gr 6 r _ hr.is).mono ?_
  rintro e w2 ⟨rfl, hred⟩
  rw [show fz 6 = 4 from rfl] at hred ⊢
  rw [Htk.out] at hred ⊢
  have hr2 := hr.red hred
  go_wp2_with fail
  go_ret
  exact ⟨rfl, by rw [Pk.be_length]; exact hr2⟩

set_option maxHeartbeats 2000000 in
set_option maxRecDepth 100000 in
theorem back_7 (gr : Nat) (x : St) (r : Pk.Rd) (t : List UInt8) (w0 w : World) (hr : MineR w0 w gr r) (hx : x.Ok w0) (hat : At r (Pk.be 8 x.n) t) (hlen : r.s.length ≤ 4398046511104) (hk : Hid (x.kind = 7)) :
    Calls Try.prog 41 #[.pointer (some ⟨gr, 0, none⟩), .agg x.cells] w fun e w' => e = .returned (.bool true) ∧ MineR w0 w' gr ⟨r.s, r.pos + (Pk.be 8 x.n).length, 0⟩ := by
  have hpl := Lib.hid hx.pl
  have hnl := Lib.hid hx.nl
  obtain ⟨kind, n, i, s, A, an, ac, parts, B, bn, bc, ns, width, most, bound⟩ := x
  obtain ⟨hn, hi, hkk, hwd, hmo, hbo, hA, hB, hns, hrm⟩ := hx
  unfold St.cells
  dsimp only at *
  have hAg : 0 < an → ∀ ad, A = some ad → ad.block = gr → False := fun hn ad ha e => by have := hA.lt hn ad ha; have := hr.g0; omega
  have hBg : 0 < bn → ∀ ad, B = some ad → ad.block = gr → False := fun hn ad ha e => by have := hB.lt hn ad ha; have := hr.g0; omega
  have hA := hA.chg0 hr.chg
  have hB := hB.chg0 hr.chg
  have hle := hr.is.le
  have hgr0 := hr.is.blk.lt
  obtain ⟨rfl⟩ := hk
  go_enter Try.func41, Try.ntmps41
  go_wp2_with fail
  refine (size_calls _ _).mono ?_
  rintro e w1 ⟨rfl, c1⟩
  have hz : sz 7 = 8 := rfl
  rw [hz]
  clear hz
  have k0 : w1.cell? ⟨w.heap.size, 0, none⟩ = some (.int .i64 7) := cells_keep c1 0
  have k1 : w1.cell? ⟨w.heap.size, 1, none⟩ = some (.int .u64 n) := cells_keep c1 1
  have hA := (hA.alloc _).chg0 c1
  have hB := (hB.alloc _).chg0 c1
  have hr := hr.below (((Chg.refl _ w).alloc _).trans c1)
  have hbg : ¬ (w.heap.size = gr) := fun e => by have := hgr0; omega
  have hgne : gr ≠ w.heap.size := by omega
  have hbs := Blk.lt (((Blk.new w 39 _).chg c1 (fun h => h)))
  obtain ⟨m, hm⟩ : ∃ m, m = n % 256 ^ 8 := ⟨_, rfl⟩
  have htk := hat.take
  rw [← hm] at htk
  have Htk := Lib.hid htk
  obtain rfl : m = n := by unfold U64 at hn; rw [show (256 : Nat) ^ 8 = 18446744073709551616 from rfl] at hm; omega
  clear htk hm
  go_wp2_with fail
  refine (fixed_calls gr 7 r _ hr.is).mono ?_
  rintro e w2 ⟨rfl, hred⟩
  rw [show fz 7 = 8 from rfl] at hred ⊢
  rw [Htk.out] at hred ⊢
  have hr2 := hr.red hred
  go_wp2_with fail
  go_ret
  exact ⟨rfl, by rw [Pk.be_length]; exact hr2⟩

set_option maxHeartbeats 2000000 in
set_option maxRecDepth 100000 in
theorem back_8 (gr : Nat) (x : St) (r : Pk.Rd) (t : List UInt8) (w0 w : World) (hr : MineR w0 w gr r) (hx : x.Ok w0) (hat : At r (Pk.be 2 x.n) t) (hlen : r.s.length ≤ 4398046511104) (hk : Hid (x.kind = 8)) :
    Calls Try.prog 41 #[.pointer (some ⟨gr, 0, none⟩), .agg x.cells] w fun e w' => e = .returned (.bool true) ∧ MineR w0 w' gr ⟨r.s, r.pos + (Pk.be 2 x.n).length, 0⟩ := by
  have hpl := Lib.hid hx.pl
  have hnl := Lib.hid hx.nl
  obtain ⟨kind, n, i, s, A, an, ac, parts, B, bn, bc, ns, width, most, bound⟩ := x
  obtain ⟨hn, hi, hkk, hwd, hmo, hbo, hA, hB, hns, hrm⟩ := hx
  unfold St.cells
  dsimp only at *
  have hAg : 0 < an → ∀ ad, A = some ad → ad.block = gr → False := fun hn ad ha e => by have := hA.lt hn ad ha; have := hr.g0; omega
  have hBg : 0 < bn → ∀ ad, B = some ad → ad.block = gr → False := fun hn ad ha e => by have := hB.lt hn ad ha; have := hr.g0; omega
  have hA := hA.chg0 hr.chg
  have hB := hB.chg0 hr.chg
  have hle := hr.is.le
  have hgr0 := hr.is.blk.lt
  obtain ⟨rfl⟩ := hk
  go_enter Try.func41, Try.ntmps41
  go_wp2_with fail
  refine (size_calls _ _).mono ?_
  rintro e w1 ⟨rfl, c1⟩
  have hz : sz 8 = 2 := rfl
  rw [hz]
  clear hz
  have k0 : w1.cell? ⟨w.heap.size, 0, none⟩ = some (.int .i64 8) := cells_keep c1 0
  have k1 : w1.cell? ⟨w.heap.size, 1, none⟩ = some (.int .u64 n) := cells_keep c1 1
  have hA := (hA.alloc _).chg0 c1
  have hB := (hB.alloc _).chg0 c1
  have hr := hr.below (((Chg.refl _ w).alloc _).trans c1)
  have hbg : ¬ (w.heap.size = gr) := fun e => by have := hgr0; omega
  have hgne : gr ≠ w.heap.size := by omega
  have hbs := Blk.lt (((Blk.new w 39 _).chg c1 (fun h => h)))
  obtain ⟨m, hm⟩ : ∃ m, m = n % 256 ^ 2 := ⟨_, rfl⟩
  have htk := hat.take
  rw [← hm] at htk
  have Htk := Lib.hid htk
  have e1 : (n : Int) % 65536 = (m : Int) := by rw [show (256 : Nat) ^ 2 = 65536 from rfl] at hm; omega
  clear htk hm
  go_wp2_with fail
  refine (fixed_calls gr 8 r _ hr.is).mono ?_
  rintro e w2 ⟨rfl, hred⟩
  rw [show fz 8 = 2 from rfl] at hred ⊢
  rw [Htk.out] at hred ⊢
  have hr2 := hr.red hred
  go_wp2_with fail
  go_ret
  exact ⟨rfl, by rw [Pk.be_length]; exact hr2⟩

set_option maxHeartbeats 2000000 in
set_option maxRecDepth 100000 in
theorem back_9 (gr : Nat) (x : St) (r : Pk.Rd) (t : List UInt8) (w0 w : World) (hr : MineR w0 w gr r) (hx : x.Ok w0) (hat : At r (Pk.free x.n) t) (hlen : r.s.length ≤ 4398046511104) (hk : Hid (x.kind = 9)) :
    Calls Try.prog 41 #[.pointer (some ⟨gr, 0, none⟩), .agg x.cells] w fun e w' => e = .returned (.bool true) ∧ MineR w0 w' gr ⟨r.s, r.pos + (Pk.free x.n).length, 0⟩ := by
  have hpl := Lib.hid hx.pl
  have hnl := Lib.hid hx.nl
  obtain ⟨kind, n, i, s, A, an, ac, parts, B, bn, bc, ns, width, most, bound⟩ := x
  obtain ⟨hn, hi, hkk, hwd, hmo, hbo, hA, hB, hns, hrm⟩ := hx
  unfold St.cells
  dsimp only at *
  have hAg : 0 < an → ∀ ad, A = some ad → ad.block = gr → False := fun hn ad ha e => by have := hA.lt hn ad ha; have := hr.g0; omega
  have hBg : 0 < bn → ∀ ad, B = some ad → ad.block = gr → False := fun hn ad ha e => by have := hB.lt hn ad ha; have := hr.g0; omega
  have hA := hA.chg0 hr.chg
  have hB := hB.chg0 hr.chg
  have hle := hr.is.le
  have hgr0 := hr.is.blk.lt
  obtain ⟨rfl⟩ := hk
  go_enter Try.func41, Try.ntmps41
  go_wp2_with fail
  refine (size_calls _ _).mono ?_
  rintro e w1 ⟨rfl, c1⟩
  have hz : sz 9 = 0 := rfl
  rw [hz]
  clear hz
  have k0 : w1.cell? ⟨w.heap.size, 0, none⟩ = some (.int .i64 9) := cells_keep c1 0
  have k1 : w1.cell? ⟨w.heap.size, 1, none⟩ = some (.int .u64 n) := cells_keep c1 1
  have hA := (hA.alloc _).chg0 c1
  have hB := (hB.alloc _).chg0 c1
  have hr := hr.below (((Chg.refl _ w).alloc _).trans c1)
  have hbg : ¬ (w.heap.size = gr) := fun e => by have := hgr0; omega
  have hgne : gr ≠ w.heap.size := by omega
  have hbs := Blk.lt (((Blk.new w 39 _).chg c1 (fun h => h)))
  have Htk := Lib.hid (hat.free (most := n) hn (Nat.le_refl _))
  go_wp2_with fail
  go_region_with (go_at_call 31; refine (rfree_calls gr n r _ ?_).mono ?_; exact hr.is.drewN 1; rintro e w2 ⟨rfl, hred⟩; have k1' := (hred.2.cell (p := ⟨w.heap.size, 1, none⟩) hbs hbg).trans k1; rw [Htk.out] at hred ⊢)
  all_goals
    have hr2 := (hr.quiet 1).red hred
    go_wp2_with fail
    go_ret
    exact ⟨rfl, hr2⟩

set_option maxHeartbeats 2000000 in
set_option maxRecDepth 100000 in
theorem back_10 (gr : Nat) (x : St) (r : Pk.Rd) (t : List UInt8) (w0 w : World) (hr : MineR w0 w gr r) (hx : x.Ok w0) (hat : At r (Pk.free (Pk.zig x.i)) t) (hlen : r.s.length ≤ 4398046511104) (hk : Hid (x.kind = 10)) :
    Calls Try.prog 41 #[.pointer (some ⟨gr, 0, none⟩), .agg x.cells] w fun e w' => e = .returned (.bool true) ∧ MineR w0 w' gr ⟨r.s, r.pos + (Pk.free (Pk.zig x.i)).length, 0⟩ := by
  have hpl := Lib.hid hx.pl
  have hnl := Lib.hid hx.nl
  obtain ⟨kind, n, i, s, A, an, ac, parts, B, bn, bc, ns, width, most, bound⟩ := x
  obtain ⟨hn, hi, hkk, hwd, hmo, hbo, hA, hB, hns, hrm⟩ := hx
  unfold St.cells
  dsimp only at *
  have hAg : 0 < an → ∀ ad, A = some ad → ad.block = gr → False := fun hn ad ha e => by have := hA.lt hn ad ha; have := hr.g0; omega
  have hBg : 0 < bn → ∀ ad, B = some ad → ad.block = gr → False := fun hn ad ha e => by have := hB.lt hn ad ha; have := hr.g0; omega
  have hA := hA.chg0 hr.chg
  have hB := hB.chg0 hr.chg
  have hle := hr.is.le
  have hgr0 := hr.is.blk.lt
  obtain ⟨rfl⟩ := hk
  go_enter Try.func41, Try.ntmps41
  go_wp2_with fail
  refine (size_calls _ _).mono ?_
  rintro e w1 ⟨rfl, c1⟩
  have hz : sz 10 = 0 := rfl
  rw [hz]
  clear hz
  have k0 : w1.cell? ⟨w.heap.size, 0, none⟩ = some (.int .i64 10) := cells_keep c1 0
  have k2 : w1.cell? ⟨w.heap.size, 2, none⟩ = some (.int .i64 i) := cells_keep c1 2
  have hA := (hA.alloc _).chg0 c1
  have hB := (hB.alloc _).chg0 c1
  have hr := hr.below (((Chg.refl _ w).alloc _).trans c1)
  have hbg : ¬ (w.heap.size = gr) := fun e => by have := hgr0; omega
  have hgne : gr ≠ w.heap.size := by omega
  have hbs := Blk.lt (((Blk.new w 39 _).chg c1 (fun h => h)))
  have Htk := Lib.hid (hat.free (most := 18446744073709551615) (zig_u64 i hi) (by have := zig_u64 i hi; unfold U64 at this; omega))
  go_wp2_with fail
  go_region_with (go_at_call 32; refine (rsigned_back gr i _ r _ ?_ Htk.out).mono ?_; exact hr.is.drewN 1; rintro e w2 ⟨rfl, hred⟩; have k2' := (hred.2.cell (p := ⟨w.heap.size, 2, none⟩) hbs hbg).trans k2; skip)
  all_goals
    have hr2 := (hr.quiet 1).red hred
    go_wp2_with fail
    go_ret
    exact ⟨rfl, hr2⟩

set_option maxHeartbeats 2000000 in
set_option maxRecDepth 100000 in
theorem back_12 (gr : Nat) (x : St) (r : Pk.Rd) (t : List UInt8) (w0 w : World) (hr : MineR w0 w gr r) (hx : x.Ok w0) (hat : At r (Pk.text x.s) t) (hlen : r.s.length ≤ 4398046511104) (hk : Hid (x.kind = 12)) :
    Calls Try.prog 41 #[.pointer (some ⟨gr, 0, none⟩), .agg x.cells] w fun e w' => e = .returned (.bool true) ∧ MineR w0 w' gr ⟨r.s, r.pos + (Pk.text x.s).length, 0⟩ := by
  have hpl := Lib.hid hx.pl
  have hnl := Lib.hid hx.nl
  obtain ⟨kind, n, i, s, A, an, ac, parts, B, bn, bc, ns, width, most, bound⟩ := x
  obtain ⟨hn, hi, hkk, hwd, hmo, hbo, hA, hB, hns, hrm⟩ := hx
  unfold St.cells
  dsimp only at *
  have hAg : 0 < an → ∀ ad, A = some ad → ad.block = gr → False := fun hn ad ha e => by have := hA.lt hn ad ha; have := hr.g0; omega
  have hBg : 0 < bn → ∀ ad, B = some ad → ad.block = gr → False := fun hn ad ha e => by have := hB.lt hn ad ha; have := hr.g0; omega
  have hA := hA.chg0 hr.chg
  have hB := hB.chg0 hr.chg
  have hle := hr.is.le
  have hgr0 := hr.is.blk.lt
  obtain ⟨rfl⟩ := hk
  go_enter Try.func41, Try.ntmps41
  go_wp2_with fail
  refine (size_calls _ _).mono ?_
  rintro e w1 ⟨rfl, c1⟩
  have hz : sz 12 = 0 := rfl
  rw [hz]
  clear hz
  have k0 : w1.cell? ⟨w.heap.size, 0, none⟩ = some (.int .i64 12) := cells_keep c1 0
  have k3 : w1.cell? ⟨w.heap.size, 3, none⟩ = some (S s) := cells_keep c1 3
  have hA := (hA.alloc _).chg0 c1
  have hB := (hB.alloc _).chg0 c1
  have hr := hr.below (((Chg.refl _ w).alloc _).trans c1)
  have hbg : ¬ (w.heap.size = gr) := fun e => by have := hgr0; omega
  have hgne : gr ≠ w.heap.size := by omega
  have hbs := Blk.lt (((Blk.new w 39 _).chg c1 (fun h => h)))
  have Htk := Lib.hid (hat.text (most := (s.length : Int)) (by omega) (by omega))
  go_wp2_with fail
  go_region_with (go_at_call 34; refine (rtext_calls gr (s.length : Int) r _ ?_ ?_).mono ?_; exact hr.is.drewN 1; (unfold I64; omega); rintro e w2 ⟨rfl, hred⟩; have k3' := (hred.2.cell (p := ⟨w.heap.size, 3, none⟩) hbs hbg).trans k3; rw [Htk.out] at hred ⊢)
  all_goals
    have hr2 := (hr.quiet 1).red hred
    go_wp2_with fail
    go_ret
    exact ⟨rfl, hr2⟩
end Go.Proofs.Ytkajbpdhglaieaa
