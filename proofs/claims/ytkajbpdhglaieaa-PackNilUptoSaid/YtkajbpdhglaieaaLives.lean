/-
  heartwoodlaw01.lives: it answers true, and changes nothing that was there.
-/
import Derived.Test.YtkajbpdhglaieaaJoin
import Derived.Test.YtkajbpdhglaieaaMine
import Derived.Test.YtkajbpdhglaieaaPut
import Derived.Test.YtkajbpdhglaieaaTake
namespace Go.Proofs.Ytkajbpdhglaieaa
open Go.RowKit
set_option linter.unusedVariables false

/-- what lives reads -/
abbrev lb : List UInt8 := [1, 2, 172, 2, 1, 2, 97, 98, 120]
theorem lb1 : (Pk.Rd.mk lb 0 0).take 2 = (258, ⟨lb, 2, 0⟩) := rfl
theorem lb2 : (Pk.Rd.mk lb 2 0).free 300 = (300, ⟨lb, 4, 0⟩) := by
  rw [Pk.Rd.free_good (v := 300) (k := 2) rfl (by decide) (Nat.le_refl _)]
theorem lb3 : (Pk.Rd.mk lb 4 0).free 18446744073709551615 = (1, ⟨lb, 5, 0⟩) := by
  rw [Pk.Rd.free_good (v := 1) (k := 1) rfl (by decide) (Nat.le_of_ble_eq_true rfl)]
theorem lb4 : (Pk.Rd.mk lb 5 0).text 2 = ([97, 98], ⟨lb, 8, 0⟩) := rfl
theorem free_callsI (g : Nat) (ni : Int) (n : Nat) (v : Value) (xs : List UInt8) (w : World) (hni : ni = n) (h : IsW w g v xs) (hn : U64 n) (hroom : xs.length + (Pk.free n).length ≤ 140737488355328) :
    Calls Try.prog 12 #[.pointer (some ⟨g, 0, none⟩), .int .u64 ni] w fun e w' => e = .returned (.tuple #[]) ∧ Wrote w w' g v (xs ++ Pk.free n) := by
  subst hni; exact free_calls g n v xs w h hn hroom
theorem free_300 : Pk.free 300 = [172, 2] := by rw [Pk.free_big (by omega), Pk.free_small (by omega)]; rfl
theorem free_1 : Pk.free 1 = [1] := by rw [Pk.free_small (by omega)]; rfl
theorem free_2 : Pk.free 2 = [2] := by rw [Pk.free_small (by omega)]; rfl
theorem free_0 : Pk.free 0 = [0] := by rw [Pk.free_small (by omega)]; rfl

theorem join_lit : Pk.join [[97], []] = [2, 1, 97, 0] := by
  simp [Pk.join, Pk.text, free_0, free_1, free_2]
theorem split_lit1 : (Pk.split [2, 1, 97, 0]).1 = [[97], []] := by decide +kernel
theorem split_lit2 : (Pk.split [2, 1, 97, 0]).2.f = 0 := by decide +kernel
theorem split_lit3 : (Pk.split [2, 1, 97, 0]).2.left = 0 := by decide +kernel
theorem method_error (n : Nat) (a : Addr) (w : World) : (method (n + 1) 49 (.pointer (some a)) "Error").run Try.prog w = .ok (119, .pointer (some a)) w := by kernel_rfl

set_option maxHeartbeats 2000000 in
set_option maxRecDepth 100000 in
theorem lives_calls (w : World) : Calls Try.prog 11 #[] w fun e w' => e = .returned (.bool true) ∧ Chg (fun _ => False) w w' := by
  go_enter Try.func11, Try.ntmps11
  go_wp2_with fail
  refine (new_calls w).mono ?_
  rintro e w1 ⟨rfl, h1, hb1, hz1⟩
  have hc1 := Chg.of_below hb1 (fun _ => False)
  have m1 : Mine w w1 w.heap.size (.slice none 0 0) [] := ⟨h1, hc1, Nat.le_refl _, by simp [Value.ownBlock]⟩
  clear h1 hc1 hz1 hb1
  go_wp2_with fail
  refine (put_uint16 w.heap.size 258 _ [] w1 m1.is (by simp)).mono ?_
  rintro e w2 ⟨rfl, hw⟩
  obtain ⟨v2, m2⟩ := m1.wrote hw
  clear hw m1
  go_wp2_with fail
  refine (free_callsI w.heap.size 300 300 v2 _ w2 rfl m2.is (by unfold U64; omega) (by rw [free_300]; simp [Pk.be_length])).mono ?_
  rintro e w3 ⟨rfl, hw⟩
  obtain ⟨v3, m3⟩ := m2.wrote hw
  clear hw m2
  go_wp2_with fail
  refine (signed_calls w.heap.size (-1) v3 _ w3 m3.is (by unfold I64; omega) (by rw [free_300, show Pk.zig (-1) = 1 from rfl, free_1]; simp [Pk.be_length])).mono ?_
  rintro e w4 ⟨rfl, hw⟩
  obtain ⟨v4, m4⟩ := m3.wrote hw
  clear hw m3
  go_wp2_with fail
  refine (text_calls w.heap.size [97, 98] v4 _ w4 m4.is (by rw [free_300, show Pk.zig (-1) = 1 from rfl, free_1]; simp [Pk.be_length, free_2])).mono ?_
  rintro e w5 ⟨rfl, hw⟩
  obtain ⟨v5, m5⟩ := m4.wrote hw
  clear hw m4
  rw [free_300, show Pk.zig (-1) = 1 from rfl, free_1, show ([97, 98] : List UInt8).length = 2 from rfl, free_2] at m5
  have h5 : IsW w5 w.heap.size v5 [1, 2, 172, 2, 1, 2, 97, 98] := m5.is
  have hc := m5.chg
  clear m5
  go_wp2_with fail
  refine (string_calls w.heap.size v5 _ w5 h5).mono ?_
  rintro e w' ⟨rfl, rfl⟩
  clear h5
  go_wp2_with fail
  rw [show (⟨#[1, 2, 172, 2, 1, 2, 97, 98]⟩ : ByteArray) ++ ⟨#[120]⟩ = ⟨lb.toArray⟩ from rfl]
  refine (open_calls lb w5 (by decide)).mono ?_
  rintro e w6 ⟨rfl, h6, hb6, hz6⟩
  have r6 : MineR w w6 w5.heap.size ⟨lb, 0, 0⟩ := ⟨h6, hc.trans (Chg.of_below hb6 _), hc.size⟩
  clear h6 hb6 hz6
  go_wp2_with fail
  refine (take_uint16 w5.heap.size _ w6 r6.is).mono ?_
  rintro e w7 ⟨rfl, hr⟩
  rw [lb1] at hr ⊢
  rw [show tk .u16 (258, Pk.Rd.mk lb 2 0).1 = 258 by decide]
  have r7 := r6.red hr
  clear hr r6
  go_wp2_with fail
  refine (rfree_callsI w5.heap.size 300 300 _ w7 rfl r7.is).mono ?_
  rintro e w8 ⟨rfl, hr⟩
  rw [lb2] at hr ⊢
  have r8 := r7.red hr
  clear hr r7
  go_wp2_with fail
  refine (rsigned_calls w5.heap.size _ w8 r8.is).mono ?_
  rintro e w9 ⟨rfl, hr⟩
  rw [lb3] at hr ⊢
  rw [show unzig (1, Pk.Rd.mk lb 5 0).1 = -1 by decide]
  have r9 := r8.red hr
  clear hr r8
  go_wp2_with fail
  refine (rtext_calls w5.heap.size 2 _ w9 r9.is (by unfold I64; omega)).mono ?_
  rintro e w10 ⟨rfl, hr⟩
  rw [lb4] at hr ⊢
  have r10 := r9.red hr
  clear hr r9
  go_wp2_with fail
  refine (end_rest w5.heap.size _ w10 r10.is rfl (by decide)).mono ?_
  rintro e w11 ⟨v, rfl, g11, rfl, hb11, hc11, hg11⟩
  have hc' := r10.chg.trans hc11
  clear r10
  go_wp2_with fail
  refine (join_calls (some ⟨w11.heap.size, 0, none⟩) 2 2 [[97], []] _ (Lst.new w11 9 [S [97], S []]) (by omega) (by rw [join_lit]; decide)).mono ?_
  rintro e w12 ⟨rfl, hc12⟩
  rw [join_lit]
  have hb12 := (hb11.alloc (.cells #[.string ⟨#[97]⟩, .string ⟨#[]⟩] 9)).chg hc12 (fun h => h)
  have hd12 := (hc'.alloc (.cells #[.string ⟨#[97]⟩, .string ⟨#[]⟩] 9)).trans hc12
  clear hb11 hc11 hc' hc12
  go_wp2_with fail
  refine (split_ok [2, 1, 97, 0] w12 (by decide) split_lit2 split_lit3).mono ?_
  rintro e w13 ⟨v, rfl, hown, hc13⟩
  rw [split_lit1] at hown
  obtain ⟨ao, cp, rfl⟩ := own_form hown
  have hl := Lst.of_own hown
  have hb13 := hb12.chg hc13 (fun h => h)
  have hd13 := hd12.trans hc13
  clear hb12 hd12 hc13 hown
  obtain ⟨b, off, rfl, hcell⟩ := hl.2 (by decide)
  have k0 : w13.cell? ⟨b, off, none⟩ = some (S [97]) := hcell 0 (S [97]) rfl
  have k1 := hcell 1 (S []) rfl
  clear hcell hl
  have hm := fun w => method_error 253 (⟨g11, 0, none⟩ : Addr) w
  go_wp2_with (go_at_call 119; refine (error_13_8 g11 _ hb13).mono ?_; rintro e w' ⟨rfl, nq, rfl⟩)
  go_ret
  exact ⟨rfl, hd13.drewN _⟩
end Go.Proofs.Ytkajbpdhglaieaa
