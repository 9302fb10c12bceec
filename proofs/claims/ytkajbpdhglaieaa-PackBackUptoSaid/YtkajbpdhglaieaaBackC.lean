/-
  heartwoodlaw01.back: a Step that was laid is read back; raw bytes, a digest, any other kind. Printed by gen_back.py.
-/
import Derived.Test.YtkajbpdhglaieaaBack
namespace Go.Proofs.Ytkajbpdhglaieaa
open Go.RowKit
set_option linter.unusedVariables false

set_option maxHeartbeats 2000000 in
set_option maxRecDepth 100000 in
theorem back_11 (gr : Nat) (x : St) (r : Pk.Rd) (t : List UInt8) (w0 w : World) (hr : MineR w0 w gr r) (hx : x.Ok w0) (hat : At r (x.parts.flatten) t) (hlen : r.s.length ≤ 4398046511104) (hk : Hid (x.kind = 11)) :
    Calls Try.prog 41 #[.pointer (some ⟨gr, 0, none⟩), .agg x.cells] w fun e w' => e = .returned (.bool true) ∧ MineR w0 w' gr ⟨r.s, r.pos + (x.parts.flatten).length, 0⟩ := by
  have hpl := Lib.hid hx.pl
  have hnl := Lib.hid hx.nl
  obtain ⟨kind, n, i, s, A, an, ac, parts, B, bn, bc, ns, width, most, bound⟩ := x
  obtain ⟨hn, hi, hkk, hwd, hmo, hbo, hA, hB, hns, hrm⟩ := hx
  unfold St.cells
  dsimp only at *
  have hAg : 0 < an → ∀ ad, A = some ad → ad.block = gr → False := fun hn ad ha e => by have := hA.lt hn ad ha; have := hr.g0; omega
  have hBg : 0 < bn → ∀ ad, B = some ad → ad.block = gr → False := fun hn ad ha e => by have := hB.lt hn ad ha; have := hr.g0; omega
  have hA := hA.chg0 hr.chg
  have hB := hB.chg0 hr.chg
  have hle := hr.is.le
  have hgr0 := hr.is.blk.lt
  obtain ⟨rfl⟩ := hk
  go_enter Try.func41, Try.ntmps41
  go_wp2_with fail
  refine (size_calls _ _).mono ?_
  rintro e w1 ⟨rfl, c1⟩
  have hz : sz 11 = 0 := rfl
  rw [hz]
  clear hz
  have k0 : w1.cell? ⟨w.heap.size, 0, none⟩ = some (.int .i64 11) := cells_keep c1 0
  have k4 : w1.cell? ⟨w.heap.size, 4, none⟩ = some (.slice A an ac) := cells_keep c1 4
  have hA := (hA.alloc _).chg0 c1
  have hB := (hB.alloc _).chg0 c1
  have hr := hr.below (((Chg.refl _ w).alloc _).trans c1)
  have hbg : ¬ (w.heap.size = gr) := fun e => by have := hgr0; omega
  have hgne : gr ≠ w.heap.size := by omega
  have hbs := Blk.lt (((Blk.new w 39 _).chg c1 (fun h => h)))
  go_wp2_with fail
  go_loopw [7] (fun iv wr => ∃ k : Nat, k ≤ an ∧ iv = .int .i64 k ∧ MineR w0 wr gr ⟨r.s, r.pos + ((parts.take k).flatten).length, 0⟩ ∧ At ⟨r.s, r.pos + ((parts.take k).flatten).length, 0⟩ ((parts.drop k).flatten) t ∧ Chg (fun b => b = gr) w1 wr) (fun iv _ => an - (intOf iv).toNat)
  case atStart =>
    refine ⟨0, by omega, rfl, ?_, ?_, Chg.refl _ _⟩
    · have h9 : r = ⟨r.s, r.pos, 0⟩ := by rw [← hat.f]
      rw [h9] at hr
      simpa using hr
    · have h9 : r = ⟨r.s, r.pos, 0⟩ := by rw [← hat.f]
      rw [h9] at hat
      simpa using hat
  case round =>
    obtain ⟨k, hk, rfl, q1, qat, hc⟩ := hrel
    have k4 := (hc.cell (p := ⟨w.heap.size, 4, none⟩) hbs hbg).trans k4
    have hA := hA.chg hc (fun hn ad ha hs => hAg hn ad ha hs)
    by_cases hp : k < an
    · obtain ⟨b, off, u, rfl, hu, hcell⟩ := hA.at_ hp
      have hpk : k < parts.length := by rw [hpl.out]; exact hp
      obtain ⟨l, hlk, hd⟩ := drop_at parts hpk
      have : u = S l := by
        simp only [strs, List.getElem?_map, hlk, Option.map_some, Option.some.injEq] at hu
        exact hu.symm
      subst this
      have hne2 : ¬ (b = gr) := fun e => hAg (by omega) ⟨b, off, none⟩ rfl e
      rw [hd, List.flatten_cons] at qat
      have htk : (parts.take (k + 1)).flatten = (parts.take k).flatten ++ l := by rw [List.take_add_one, hlk]; simp
      have hlt := flat_le (List.mem_of_getElem? hlk)
      have Hraw := Lib.hid qat.split.raw
      have Hnext := Lib.hid qat.split.next.then
      have Htk := Lib.hid htk
      have hcb := World.block_lt_of_cell? _ _ hcell
      clear hu hlk hd htk qat hpk
      generalize hpp : r.pos + ((parts.take k).flatten).length = pp at *
      have Hpp := Lib.hid hpp
      clear hpp
      go_wp2_with fail
      go_region_with (go_at_call 33; refine (rraw_calls gr (l.length : Int) ⟨r.s, pp, 0⟩ _ ?_).mono ?_; exact q1.is.drewN 1; rintro e w2 ⟨rfl, hred⟩; have k4' := (hred.2.cell (p := ⟨w.heap.size, 4, none⟩) (World.block_lt_of_cell? _ _ k4) hbg).trans k4; have hcell' := (hred.2.cell hcb hne2).trans hcell; rw [Hraw.out] at hred ⊢)
      all_goals
        have q2 := (q1.quiet 1).red hred
        have q3 := hc.drew.trans hred.2
        go_wp2_with fail
        go_roundw
        case rel => exact ⟨k + 1, by omega, by go_num, by rw [Htk.out, List.length_append, ← Nat.add_assoc, Hpp.out]; exact q2, by rw [Htk.out, List.length_append, ← Nat.add_assoc, Hpp.out]; exact Hnext.out, q3⟩
        case measure => simp [intOf]; omega
    · obtain rfl : k = an := by omega
      have hfl : (parts.take k).flatten = parts.flatten := by rw [List.take_of_length_le (by rw [hpl.out]; omega)]
      rw [hfl] at q1
      go_wp2_with fail
      go_ret
      exact ⟨rfl, q1⟩

set_option maxHeartbeats 2000000 in
set_option maxRecDepth 100000 in
theorem back_no (gr : Nat) (x : St) (r : Pk.Rd) (t : List UInt8) (w0 w : World) (hr : MineR w0 w gr r) (hx : x.Ok w0) (hat : At r (([] : List UInt8)) t) (hlen : r.s.length ≤ 4398046511104) (hk : ∀ k : Nat, k ≤ 16 → x.kind ≠ k) :
    Calls Try.prog 41 #[.pointer (some ⟨gr, 0, none⟩), .agg x.cells] w fun e w' => e = .returned (.bool true) ∧ MineR w0 w' gr ⟨r.s, r.pos + (([] : List UInt8)).length, 0⟩ := by
  have hpl := Lib.hid hx.pl
  have hnl := Lib.hid hx.nl
  obtain ⟨kind, n, i, s, A, an, ac, parts, B, bn, bc, ns, width, most, bound⟩ := x
  obtain ⟨hn, hi, hkk, hwd, hmo, hbo, hA, hB, hns, hrm⟩ := hx
  unfold St.cells
  dsimp only at *
  have hAg : 0 < an → ∀ ad, A = some ad → ad.block = gr → False := fun hn ad ha e => by have := hA.lt hn ad ha; have := hr.g0; omega
  have hBg : 0 < bn → ∀ ad, B = some ad → ad.block = gr → False := fun hn ad ha e => by have := hB.lt hn ad ha; have := hr.g0; omega
  have hA := hA.chg0 hr.chg
  have hB := hB.chg0 hr.chg
  have hle := hr.is.le
  have hgr0 := hr.is.blk.lt
  have hno : kind < 0 ∨ 8 < kind := by have := hk 0 (by omega); have := hk 1 (by omega); have := hk 2 (by omega); have := hk 3 (by omega); have := hk 4 (by omega); have := hk 5 (by omega); have := hk 6 (by omega); have := hk 7 (by omega); have := hk 8 (by omega); omega
  have q0 : (kind == 0) = false := by rw [beq_eq_false_iff_ne]; exact hk 0 (by omega)
  have q1 : (kind == 1) = false := by rw [beq_eq_false_iff_ne]; exact hk 1 (by omega)
  have q2 : (kind == 2) = false := by rw [beq_eq_false_iff_ne]; exact hk 2 (by omega)
  have q3 : (kind == 3) = false := by rw [beq_eq_false_iff_ne]; exact hk 3 (by omega)
  have q4 : (kind == 4) = false := by rw [beq_eq_false_iff_ne]; exact hk 4 (by omega)
  have q5 : (kind == 5) = false := by rw [beq_eq_false_iff_ne]; exact hk 5 (by omega)
  have q6 : (kind == 6) = false := by rw [beq_eq_false_iff_ne]; exact hk 6 (by omega)
  have q7 : (kind == 7) = false := by rw [beq_eq_false_iff_ne]; exact hk 7 (by omega)
  have q8 : (kind == 8) = false := by rw [beq_eq_false_iff_ne]; exact hk 8 (by omega)
  have q9 : (kind == 9) = false := by rw [beq_eq_false_iff_ne]; exact hk 9 (by omega)
  have q10 : (kind == 10) = false := by rw [beq_eq_false_iff_ne]; exact hk 10 (by omega)
  have q11 : (kind == 11) = false := by rw [beq_eq_false_iff_ne]; exact hk 11 (by omega)
  have q12 : (kind == 12) = false := by rw [beq_eq_false_iff_ne]; exact hk 12 (by omega)
  have q13 : (kind == 13) = false := by rw [beq_eq_false_iff_ne]; exact hk 13 (by omega)
  have q14 : (kind == 14) = false := by rw [beq_eq_false_iff_ne]; exact hk 14 (by omega)
  have q15 : (kind == 15) = false := by rw [beq_eq_false_iff_ne]; exact hk 15 (by omega)
  have q16 : (kind == 16) = false := by rw [beq_eq_false_iff_ne]; exact hk 16 (by omega)
  clear hk
  go_enter Try.func41, Try.ntmps41
  go_wp2_with fail
  refine (size_calls _ _).mono ?_
  rintro e w1 ⟨rfl, c1⟩
  have hz : sz kind = 0 := by unfold sz; rw [if_pos hno]
  rw [hz]
  clear hz
  clear hno
  have k0 : w1.cell? ⟨w.heap.size, 0, none⟩ = some (.int .i64 kind) := cells_keep c1 0
  have hA := (hA.alloc _).chg0 c1
  have hB := (hB.alloc _).chg0 c1
  have hr := hr.below (((Chg.refl _ w).alloc _).trans c1)
  have hbg : ¬ (w.heap.size = gr) := fun e => by have := hgr0; omega
  have hgne : gr ≠ w.heap.size := by omega
  have hbs := Blk.lt (((Blk.new w 39 _).chg c1 (fun h => h)))
  go_wp2_with fail
  go_ret
  exact ⟨rfl, by have h9 : r = ⟨r.s, r.pos, 0⟩ := by rw [← hat.f]
                 rw [h9] at hr
                 exact hr⟩
end Go.Proofs.Ytkajbpdhglaieaa
