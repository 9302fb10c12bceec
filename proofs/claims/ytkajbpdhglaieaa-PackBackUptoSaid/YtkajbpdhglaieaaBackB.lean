/-
  heartwoodlaw01.back: a Step that was laid is read back; the kinds of lists. Printed by gen_back.py.
-/
import Derived.Test.YtkajbpdhglaieaaBack
import Derived.BigQuiet
namespace Go.Proofs.Ytkajbpdhglaieaa
open Go.RowKit
set_option linter.unusedVariables false

set_option maxHeartbeats 2000000 in
set_option maxRecDepth 100000 in
theorem back_15 (gr : Nat) (x : St) (r : Pk.Rd) (t : List UInt8) (w0 w : World) (hr : MineR w0 w gr r) (hx : x.Ok w0) (hat : At r (Pk.free x.an ++ (x.parts.map Pk.text).flatten) t) (hlen : r.s.length ≤ 4398046511104) (hk : Hid (x.kind = 15)) :
    Calls Try.prog 41 #[.pointer (some ⟨gr, 0, none⟩), .agg x.cells] w fun e w' => e = .returned (.bool true) ∧ MineR w0 w' gr ⟨r.s, r.pos + (Pk.free x.an ++ (x.parts.map Pk.text).flatten).length, 0⟩ := by
  have hpl := Lib.hid hx.pl
  have hnl := Lib.hid hx.nl
  obtain ⟨kind, n, i, s, A, an, ac, parts, B, bn, bc, ns, width, most, bound⟩ := x
  obtain ⟨hn, hi, hkk, hwd, hmo, hbo, hA, hB, hns, hrm⟩ := hx
  unfold St.cells
  dsimp only at *
  have hAg : 0 < an → ∀ ad, A = some ad → ad.block = gr → False := fun hn ad ha e => by have := hA.lt hn ad ha; have := hr.g0; omega
  have hBg : 0 < bn → ∀ ad, B = some ad → ad.block = gr → False := fun hn ad ha e => by have := hB.lt hn ad ha; have := hr.g0; omega
  have hA := hA.chg0 hr.chg
  have hB := hB.chg0 hr.chg
  have hle := hr.is.le
  have hgr0 := hr.is.blk.lt
  obtain ⟨rfl⟩ := hk
  go_enter Try.func41, Try.ntmps41
  go_wp2_with fail
  refine (size_calls _ _).mono ?_
  rintro e w1 ⟨rfl, c1⟩
  have hz : sz 15 = 0 := rfl
  rw [hz]
  clear hz
  have k0 : w1.cell? ⟨w.heap.size, 0, none⟩ = some (.int .i64 15) := cells_keep c1 0
  have k4 : w1.cell? ⟨w.heap.size, 4, none⟩ = some (.slice A an ac) := cells_keep c1 4
  have hA := (hA.alloc _).chg0 c1
  have hB := (hB.alloc _).chg0 c1
  have hr := hr.below (((Chg.refl _ w).alloc _).trans c1)
  have hbg : ¬ (w.heap.size = gr) := fun e => by have := hgr0; omega
  have hgne : gr ≠ w.heap.size := by omega
  have hbs := Blk.lt (((Blk.new w 39 _).chg c1 (fun h => h)))
  have hall : ∀ x ∈ parts, x.length ≤ 4194304 := fun x hx => by have := flat_le hx; omega
  have Hlist := Lib.hid (At.lists (fun r => r.text 1099511627776) Pk.text (fun x => x.length ≤ 4194304) (fun x r t hx h => h.text (by omega) (by omega)) (fun x => by unfold Pk.text; rw [List.length_append]; have := Pk.free_length_pos x.length; omega) parts r t (an : Int) hall (by rw [hpl.out]; omega) (by rw [hpl.out]; omega) (by rw [hpl.out]; exact hat))
  go_wp2_with fail
  refine (list_string (fun r => r.text 1099511627776) (fun _ => False) (fun _ _ => True) gr 85 #[] (an : Int) r _ hr.is (by unfold I64; omega) hlen trivial (fun _ h => h.elim) (fun _ _ _ _ _ _ => trivial) (fun _ _ => by kernel_rfl) (back15_reads gr)).mono ?_
  rintro e w2 ⟨v, rfl, hown, hir, hch, -⟩
  rw [Hlist.out] at hown hir
  have hred : Red _ w2 gr _ := ⟨hir, hch.mono (fun _ _ h => h.elim id False.elim)⟩
  have hr2 := hr.red hred
  obtain ⟨ao, cp, rfl⟩ := own_form hown
  have k4 := (hred.2.cell (p := ⟨w.heap.size, 4, none⟩) hbs hbg).trans k4
  have hl1 : Lst w2 ao parts.length (strs parts) := Lst.of_own hown
  have hA2 := hA.chg hred.2 (fun hn ad ha hs => hAg hn ad ha hs)
  have Hcap := Lib.hid hown
  clear hown
  go_wp2_with fail
  refine (same_calls ao A parts.length an cp ac parts parts true w2 hl1 hA2 (by rw [hpl.out]; omega) (by simp)).mono ?_
  rintro e w3 ⟨rfl, nq, rfl⟩
  have hr3 := hr2.quiet nq
  go_wp2_with fail
  go_ret
  exact ⟨rfl, by rw [← hpl.out]; exact hr3⟩

set_option maxHeartbeats 1000000 in
set_option maxRecDepth 100000 in
theorem back14_reads (g : Nat) : Reads1 (fun x : Nat => Value.int .u64 (x : Int)) (fun r => r.free 18446744073709551615) (fun _ => False) (fun _ _ => True) g 84 #[] := by
  intro k r w h hf _
  show Calls _ _ #[.pointer (some ⟨g, 0, none⟩)] _ _
  go_enter Try.func84, Try.ntmps84
  go_wp2_with fail
  refine (rfree_callsI g _ 18446744073709551615 r w rfl h).mono ?_
  rintro e w1 ⟨rfl, h1, hc1⟩
  go_wp2_with fail
  go_ret
  exact ⟨rfl, h1, rfree_s r _, hc1.mono fun _ _ h => .inl h, trivial⟩

set_option maxHeartbeats 2000000 in
set_option maxRecDepth 100000 in
theorem back_14 (gr : Nat) (x : St) (r : Pk.Rd) (t : List UInt8) (w0 w : World) (hr : MineR w0 w gr r) (hx : x.Ok w0) (hat : At r (Pk.free x.bn ++ (x.ns.map Pk.free).flatten) t) (hlen : r.s.length ≤ 4398046511104) (hk : Hid (x.kind = 14)) :
    Calls Try.prog 41 #[.pointer (some ⟨gr, 0, none⟩), .agg x.cells] w fun e w' => e = .returned (.bool true) ∧ MineR w0 w' gr ⟨r.s, r.pos + (Pk.free x.bn ++ (x.ns.map Pk.free).flatten).length, 0⟩ := by
  have hpl := Lib.hid hx.pl
  have hnl := Lib.hid hx.nl
  obtain ⟨kind, n, i, s, A, an, ac, parts, B, bn, bc, ns, width, most, bound⟩ := x
  obtain ⟨hn, hi, hkk, hwd, hmo, hbo, hA, hB, hns, hrm⟩ := hx
  unfold St.cells
  dsimp only at *
  have hAg : 0 < an → ∀ ad, A = some ad → ad.block = gr → False := fun hn ad ha e => by have := hA.lt hn ad ha; have := hr.g0; omega
  have hBg : 0 < bn → ∀ ad, B = some ad → ad.block = gr → False := fun hn ad ha e => by have := hB.lt hn ad ha; have := hr.g0; omega
  have hA := hA.chg0 hr.chg
  have hB := hB.chg0 hr.chg
  have hle := hr.is.le
  have hgr0 := hr.is.blk.lt
  obtain ⟨rfl⟩ := hk
  go_enter Try.func41, Try.ntmps41
  go_wp2_with fail
  refine (size_calls _ _).mono ?_
  rintro e w1 ⟨rfl, c1⟩
  have hz : sz 14 = 0 := rfl
  rw [hz]
  clear hz
  have k0 : w1.cell? ⟨w.heap.size, 0, none⟩ = some (.int .i64 14) := cells_keep c1 0
  have k5 : w1.cell? ⟨w.heap.size, 5, none⟩ = some (.slice B bn bc) := cells_keep c1 5
  have hA := (hA.alloc _).chg0 c1
  have hB := (hB.alloc _).chg0 c1
  have hr := hr.below (((Chg.refl _ w).alloc _).trans c1)
  have hbg : ¬ (w.heap.size = gr) := fun e => by have := hgr0; omega
  have hgne : gr ≠ w.heap.size := by omega
  have hbs := Blk.lt (((Blk.new w 39 _).chg c1 (fun h => h)))
  have Hlist := Lib.hid (At.lists (fun r => r.free 18446744073709551615) Pk.free U64 (fun x r t hx h => h.free hx (by unfold U64 at hx; omega)) Pk.free_length_pos ns r t (bn : Int) hns (by rw [hnl.out]; omega) (by rw [hnl.out]; omega) (by rw [hnl.out]; exact hat))
  go_wp2_with fail
  refine (list_uint64 (fun r => r.free 18446744073709551615) (fun _ => False) (fun _ _ => True) gr 84 #[] (bn : Int) r _ hr.is (by unfold I64; omega) hlen trivial (fun _ h => h.elim) (fun _ _ _ _ _ _ => trivial) (fun _ _ => by kernel_rfl) (back14_reads gr)).mono ?_
  rintro e w2 ⟨v, rfl, hown, hir, hch, -⟩
  rw [Hlist.out] at hown hir
  have hred : Red _ w2 gr _ := ⟨hir, hch.mono (fun _ _ h => h.elim id False.elim)⟩
  have hr2 := hr.red hred
  obtain ⟨ao, cp, rfl⟩ := own_form hown
  have k5 := (hred.2.cell (p := ⟨w.heap.size, 5, none⟩) hbs hbg).trans k5
  have hl1 : Lst w2 ao ns.length (u64s ns) := Lst.of_own hown
  have hB2 := hB.chg hred.2 (fun hn ad ha hs => hBg hn ad ha hs)
  have Hcap := Lib.hid hown
  have hnlb : ns.length = bn := hnl.out
  obtain ⟨ln, hln⟩ : ∃ ln, ln = ns.length := ⟨_, rfl⟩
  rw [← hln] at hl1 hnlb ⊢
  subst hnlb
  clear hown
  go_wp2_with fail
  go_loopw [11] (fun iv wr => ∃ k j : Nat, k ≤ ln ∧ iv = .int .i64 k ∧ wr = w2.drewN j) (fun iv _ => ln - (intOf iv).toNat)
  case atStart => exact ⟨0, 0, by omega, rfl, rfl⟩
  case round =>
    obtain ⟨k, j, hk, rfl, rfl⟩ := hrel
    by_cases hp : k < ln
    · obtain ⟨b1, off1, u1, rfl, hu1, hcell1⟩ := hl1.at_ hp
      obtain ⟨b2, off2, u2, rfl, hu2, hcell2⟩ := hB2.at_ hp
      rw [hu1] at hu2
      injection hu2 with hu2
      subst hu2
      obtain ⟨y, rfl⟩ : ∃ y : Nat, u1 = .int .u64 y := by
        simp only [u64s, List.getElem?_map, Option.map_eq_some_iff] at hu1
        obtain ⟨y, _, rfl⟩ := hu1
        exact ⟨y, rfl⟩
      clear hu1
      go_wp2_with fail
      go_quiet (fail)
      go_wp2_with fail
      go_roundw
      case rel => exact ⟨k + 1, j + nq, by omega, by go_num, rfl⟩
      case measure => simp [intOf]; omega
    · go_wp2_with fail
      go_ret
      exact ⟨rfl, by have h9 := hr2.quiet j; rw [← hln] at h9; exact h9⟩
end Go.Proofs.Ytkajbpdhglaieaa
