/-
  pack.Each at each type that the statements reach: how many things there are, and each of them by the function that is handed in. Printed by gen_pack.py.
-/
import Derived.Test.YtkajbpdhglaieaaWt
namespace Go.Proofs.Ytkajbpdhglaieaa
open Go.RowKit
set_option linter.unusedVariables false

theorem wrote_then {w w1 w2 : World} {g : Nat} {v v1 : Value} {ys : List UInt8} (hc1 : Chg (fun k => k = g ∨ v.ownBlock = some k) w w1)
    (hv1 : ∀ k, v1.ownBlock = some k → v.ownBlock = some k ∨ w.heap.size ≤ k) (h2 : Wrote w1 w2 g v1 ys) : Wrote w w2 g v ys := by
  obtain ⟨v2, h2, hc2, hv2⟩ := h2
  refine ⟨v2, h2, hc1.andThen hc2 ?_, ?_⟩
  · intro k hk hs
    rcases hs with rfl | hs
    · exact .inl rfl
    · rcases hv1 k hs with h | h
      · exact .inr h
      · omega
  · intro k hk
    rcases hv2 k hk with h | h
    · exact hv1 k h
    · right; have := hc1.size; omega

set_option maxHeartbeats 400000 in
set_option maxRecDepth 100000 in
theorem each_uint64 (g F : Nat) (A : Option Addr) (n c : Nat) (vals : List Value) (bts : List (List UInt8)) (v : Value) (xs : List UInt8) (w : World) (h : IsW w g v xs)
    (hl : Lst w A n vals) (hb : bts.length = n) (hf : 0 < n → ∀ ad, A = some ad → ad.block ≠ g ∧ v.ownBlock ≠ some ad.block) (hn : n ≤ 140737488355328) (hroom : xs.length + (Pk.free n).length + bts.flatten.length ≤ 140737488355328)
    (hF : ∀ (args : Array Value) (w : World), (callFunc F args).run Try.prog w = .ok (.enter F args) w)
    (hone : ∀ (i : Nat) (u : Value) (l : List UInt8), vals[i]? = some u → bts[i]? = some l → ∀ (v : Value) (xs : List UInt8) (w : World), IsW w g v xs → xs.length + l.length ≤ 140737488355328 →
      Calls Try.prog F #[.pointer (some ⟨g, 0, none⟩), u] w fun e w' => e = .returned (.tuple #[]) ∧ Wrote w w' g v (xs ++ l)) :
    Calls Try.prog 26 #[.pointer (some ⟨g, 0, none⟩), .slice A n c, .func (.func F) #[] #[]] w fun e w' => e = .returned (.tuple #[]) ∧ Wrote w w' g v (xs ++ (Pk.free n ++ bts.flatten)) := by
  have c0 : w.cell? ⟨g, 0, none⟩ = some (.bool true) := by rw [h.blk.cell]; rfl
  have Hone := Lib.hid hone; clear hone
  have Hb := Lib.hid hb; clear hb
  have hfn : ∀ w : World, (binOp .eql 53 (.func (.func F) #[] #[]) .nilFunc).run Try.prog w = .ok (.bool false) w := fun _ => by kernel_rfl
  go_enter Try.func26, Try.ntmps26
  go_wp2_with fail
  refine (free_calls g n v xs w h (by unfold U64; omega) (by omega)).mono ?_
  rintro e w1 ⟨rfl, v1, h1, hc1, hv1⟩
  go_wp2_with fail
  go_loopw [7, 26] (fun _ iv wr => ∃ (k : Nat) (ys : List UInt8) (v2 : Value), k ≤ n ∧ iv = .int .i64 k ∧ IsW wr g v2 ys ∧ ys ++ (bts.drop k).flatten = xs ++ (Pk.free n ++ bts.flatten) ∧
      Chg (fun k => k = g ∨ v.ownBlock = some k) w wr ∧ ∀ k, v2.ownBlock = some k → v.ownBlock = some k ∨ w.heap.size ≤ k) (fun _ iv _ => n - (intOf iv).toNat)
  case atStart => exact ⟨0, _, v1, by omega, rfl, h1, by simp, hc1, hv1⟩
  case round =>
    obtain ⟨k, ys, v2, hk, rfl, h2, hcat, hchg, hv2⟩ := hrel
    have hvl : vals.length = n := hl.1
    by_cases hp : k < n
    · obtain ⟨b, off, u, rfl, hu, hcell⟩ := (hl.chg hchg (fun hn0 ad ha hs => by have := hf hn0 ad ha; rcases hs with hs | hs; exact this.1 hs; exact this.2 hs)).at_ hp
      obtain ⟨l, hlk, hd⟩ := drop_at bts (show k < bts.length by rw [Hb.out]; exact hp)
      rw [hd] at hcat
      have hlen : ys.length + l.length ≤ 140737488355328 := by
        have := congrArg List.length hcat; simp at this; simp at hroom; omega
      have Hcat := Lib.hid hcat
      have Hone' := Lib.hid (Hone.out k u l hu hlk v2 ys)
      clear hcat hd hu hlk hvl
      go_wp2_with fail
      refine (Hone'.out _ h2 hlen).mono ?_
      rintro e w2 ⟨rfl, hw2⟩
      go_wp2_with fail
      go_roundw
      case rel =>
        obtain ⟨v3, h3, hc3, hv3⟩ := wrote_then hchg hv2 hw2
        refine ⟨k + 1, ys ++ l, v3, by omega, by go_num, h3, ?_, hc3, hv3⟩
        have := Hcat.out
        simpa using this
      case measure => simp [intOf]; omega
    · obtain rfl : k = n := by omega
      have Hcat := Lib.hid hcat
      clear hcat hvl
      go_wp2_with fail
      go_end0
      refine ⟨rfl, v2, ?_, hchg, hv2⟩
      have := Hcat.out
      rw [List.drop_of_length_le (by rw [Hb.out]; exact Nat.le_refl _)] at this
      simp only [List.flatten_nil, List.append_nil] at this
      rw [← this]
      exact h2

set_option maxHeartbeats 400000 in
set_option maxRecDepth 100000 in
theorem each_nil_uint64 (g : Nat) (A : Option Addr) (n c : Nat) (v : Value) (xs : List UInt8) (w : World) (h : IsW w g v xs) (hn : n ≤ 140737488355328) (hroom : xs.length + (Pk.free n).length ≤ 140737488355328) :
    Calls Try.prog 26 #[.pointer (some ⟨g, 0, none⟩), .slice A n c, .nilFunc] w fun e w' => e = .returned (.tuple #[]) ∧ Wrote w w' g v (xs ++ Pk.free n) := by
  have c0 : w.cell? ⟨g, 0, none⟩ = some (.bool true) := by rw [h.blk.cell]; rfl
  have hfn : ∀ w : World, (binOp .eql 53 .nilFunc .nilFunc).run Try.prog w = .ok (.bool true) w := fun _ => by kernel_rfl
  go_enter Try.func26, Try.ntmps26
  go_wp2_with fail
  refine (free_calls g n v xs w h (by unfold U64; omega) (by omega)).mono ?_
  rintro e w1 ⟨rfl, hw⟩
  go_wp2_with fail
  refine bodyPost_ret (results_none rfl _ _ _) rfl ?_
  exact ⟨rfl, hw⟩

set_option maxHeartbeats 400000 in
set_option maxRecDepth 100000 in
theorem each_string (g F : Nat) (A : Option Addr) (n c : Nat) (vals : List Value) (bts : List (List UInt8)) (v : Value) (xs : List UInt8) (w : World) (h : IsW w g v xs)
    (hl : Lst w A n vals) (hb : bts.length = n) (hf : 0 < n → ∀ ad, A = some ad → ad.block ≠ g ∧ v.ownBlock ≠ some ad.block) (hn : n ≤ 140737488355328) (hroom : xs.length + (Pk.free n).length + bts.flatten.length ≤ 140737488355328)
    (hF : ∀ (args : Array Value) (w : World), (callFunc F args).run Try.prog w = .ok (.enter F args) w)
    (hone : ∀ (i : Nat) (u : Value) (l : List UInt8), vals[i]? = some u → bts[i]? = some l → ∀ (v : Value) (xs : List UInt8) (w : World), IsW w g v xs → xs.length + l.length ≤ 140737488355328 →
      Calls Try.prog F #[.pointer (some ⟨g, 0, none⟩), u] w fun e w' => e = .returned (.tuple #[]) ∧ Wrote w w' g v (xs ++ l)) :
    Calls Try.prog 47 #[.pointer (some ⟨g, 0, none⟩), .slice A n c, .func (.func F) #[] #[]] w fun e w' => e = .returned (.tuple #[]) ∧ Wrote w w' g v (xs ++ (Pk.free n ++ bts.flatten)) := by
  have c0 : w.cell? ⟨g, 0, none⟩ = some (.bool true) := by rw [h.blk.cell]; rfl
  have Hone := Lib.hid hone; clear hone
  have Hb := Lib.hid hb; clear hb
  have hfn : ∀ w : World, (binOp .eql 87 (.func (.func F) #[] #[]) .nilFunc).run Try.prog w = .ok (.bool false) w := fun _ => by kernel_rfl
  go_enter Try.func47, Try.ntmps47
  go_wp2_with fail
  refine (free_calls g n v xs w h (by unfold U64; omega) (by omega)).mono ?_
  rintro e w1 ⟨rfl, v1, h1, hc1, hv1⟩
  go_wp2_with fail
  go_loopw [7, 26] (fun _ iv wr => ∃ (k : Nat) (ys : List UInt8) (v2 : Value), k ≤ n ∧ iv = .int .i64 k ∧ IsW wr g v2 ys ∧ ys ++ (bts.drop k).flatten = xs ++ (Pk.free n ++ bts.flatten) ∧
      Chg (fun k => k = g ∨ v.ownBlock = some k) w wr ∧ ∀ k, v2.ownBlock = some k → v.ownBlock = some k ∨ w.heap.size ≤ k) (fun _ iv _ => n - (intOf iv).toNat)
  case atStart => exact ⟨0, _, v1, by omega, rfl, h1, by simp, hc1, hv1⟩
  case round =>
    obtain ⟨k, ys, v2, hk, rfl, h2, hcat, hchg, hv2⟩ := hrel
    have hvl : vals.length = n := hl.1
    by_cases hp : k < n
    · obtain ⟨b, off, u, rfl, hu, hcell⟩ := (hl.chg hchg (fun hn0 ad ha hs => by have := hf hn0 ad ha; rcases hs with hs | hs; exact this.1 hs; exact this.2 hs)).at_ hp
      obtain ⟨l, hlk, hd⟩ := drop_at bts (show k < bts.length by rw [Hb.out]; exact hp)
      rw [hd] at hcat
      have hlen : ys.length + l.length ≤ 140737488355328 := by
        have := congrArg List.length hcat; simp at this; simp at hroom; omega
      have Hcat := Lib.hid hcat
      have Hone' := Lib.hid (Hone.out k u l hu hlk v2 ys)
      clear hcat hd hu hlk hvl
      go_wp2_with fail
      refine (Hone'.out _ h2 hlen).mono ?_
      rintro e w2 ⟨rfl, hw2⟩
      go_wp2_with fail
      go_roundw
      case rel =>
        obtain ⟨v3, h3, hc3, hv3⟩ := wrote_then hchg hv2 hw2
        refine ⟨k + 1, ys ++ l, v3, by omega, by go_num, h3, ?_, hc3, hv3⟩
        have := Hcat.out
        simpa using this
      case measure => simp [intOf]; omega
    · obtain rfl : k = n := by omega
      have Hcat := Lib.hid hcat
      clear hcat hvl
      go_wp2_with fail
      go_end0
      refine ⟨rfl, v2, ?_, hchg, hv2⟩
      have := Hcat.out
      rw [List.drop_of_length_le (by rw [Hb.out]; exact Nat.le_refl _)] at this
      simp only [List.flatten_nil, List.append_nil] at this
      rw [← this]
      exact h2

set_option maxHeartbeats 400000 in
set_option maxRecDepth 100000 in
theorem each_nil_string (g : Nat) (A : Option Addr) (n c : Nat) (v : Value) (xs : List UInt8) (w : World) (h : IsW w g v xs) (hn : n ≤ 140737488355328) (hroom : xs.length + (Pk.free n).length ≤ 140737488355328) :
    Calls Try.prog 47 #[.pointer (some ⟨g, 0, none⟩), .slice A n c, .nilFunc] w fun e w' => e = .returned (.tuple #[]) ∧ Wrote w w' g v (xs ++ Pk.free n) := by
  have c0 : w.cell? ⟨g, 0, none⟩ = some (.bool true) := by rw [h.blk.cell]; rfl
  have hfn : ∀ w : World, (binOp .eql 87 .nilFunc .nilFunc).run Try.prog w = .ok (.bool true) w := fun _ => by kernel_rfl
  go_enter Try.func47, Try.ntmps47
  go_wp2_with fail
  refine (free_calls g n v xs w h (by unfold U64; omega) (by omega)).mono ?_
  rintro e w1 ⟨rfl, hw⟩
  go_wp2_with fail
  refine bodyPost_ret (results_none rfl _ _ _) rfl ?_
  exact ⟨rfl, hw⟩

set_option maxHeartbeats 400000 in
set_option maxRecDepth 100000 in
theorem each_uint8 (g F : Nat) (A : Option Addr) (n c : Nat) (vals : List Value) (bts : List (List UInt8)) (v : Value) (xs : List UInt8) (w : World) (h : IsW w g v xs)
    (hl : Lst w A n vals) (hb : bts.length = n) (hf : 0 < n → ∀ ad, A = some ad → ad.block ≠ g ∧ v.ownBlock ≠ some ad.block) (hn : n ≤ 140737488355328) (hroom : xs.length + (Pk.free n).length + bts.flatten.length ≤ 140737488355328)
    (hF : ∀ (args : Array Value) (w : World), (callFunc F args).run Try.prog w = .ok (.enter F args) w)
    (hone : ∀ (i : Nat) (u : Value) (l : List UInt8), vals[i]? = some u → bts[i]? = some l → ∀ (v : Value) (xs : List UInt8) (w : World), IsW w g v xs → xs.length + l.length ≤ 140737488355328 →
      Calls Try.prog F #[.pointer (some ⟨g, 0, none⟩), u] w fun e w' => e = .returned (.tuple #[]) ∧ Wrote w w' g v (xs ++ l)) :
    Calls Try.prog 98 #[.pointer (some ⟨g, 0, none⟩), .slice A n c, .func (.func F) #[] #[]] w fun e w' => e = .returned (.tuple #[]) ∧ Wrote w w' g v (xs ++ (Pk.free n ++ bts.flatten)) := by
  have c0 : w.cell? ⟨g, 0, none⟩ = some (.bool true) := by rw [h.blk.cell]; rfl
  have Hone := Lib.hid hone; clear hone
  have Hb := Lib.hid hb; clear hb
  have hfn : ∀ w : World, (binOp .eql 88 (.func (.func F) #[] #[]) .nilFunc).run Try.prog w = .ok (.bool false) w := fun _ => by kernel_rfl
  go_enter Try.func98, Try.ntmps98
  go_wp2_with fail
  refine (free_calls g n v xs w h (by unfold U64; omega) (by omega)).mono ?_
  rintro e w1 ⟨rfl, v1, h1, hc1, hv1⟩
  go_wp2_with fail
  go_loopw [7, 26] (fun _ iv wr => ∃ (k : Nat) (ys : List UInt8) (v2 : Value), k ≤ n ∧ iv = .int .i64 k ∧ IsW wr g v2 ys ∧ ys ++ (bts.drop k).flatten = xs ++ (Pk.free n ++ bts.flatten) ∧
      Chg (fun k => k = g ∨ v.ownBlock = some k) w wr ∧ ∀ k, v2.ownBlock = some k → v.ownBlock = some k ∨ w.heap.size ≤ k) (fun _ iv _ => n - (intOf iv).toNat)
  case atStart => exact ⟨0, _, v1, by omega, rfl, h1, by simp, hc1, hv1⟩
  case round =>
    obtain ⟨k, ys, v2, hk, rfl, h2, hcat, hchg, hv2⟩ := hrel
    have hvl : vals.length = n := hl.1
    by_cases hp : k < n
    · obtain ⟨b, off, u, rfl, hu, hcell⟩ := (hl.chg hchg (fun hn0 ad ha hs => by have := hf hn0 ad ha; rcases hs with hs | hs; exact this.1 hs; exact this.2 hs)).at_ hp
      obtain ⟨l, hlk, hd⟩ := drop_at bts (show k < bts.length by rw [Hb.out]; exact hp)
      rw [hd] at hcat
      have hlen : ys.length + l.length ≤ 140737488355328 := by
        have := congrArg List.length hcat; simp at this; simp at hroom; omega
      have Hcat := Lib.hid hcat
      have Hone' := Lib.hid (Hone.out k u l hu hlk v2 ys)
      clear hcat hd hu hlk hvl
      go_wp2_with fail
      refine (Hone'.out _ h2 hlen).mono ?_
      rintro e w2 ⟨rfl, hw2⟩
      go_wp2_with fail
      go_roundw
      case rel =>
        obtain ⟨v3, h3, hc3, hv3⟩ := wrote_then hchg hv2 hw2
        refine ⟨k + 1, ys ++ l, v3, by omega, by go_num, h3, ?_, hc3, hv3⟩
        have := Hcat.out
        simpa using this
      case measure => simp [intOf]; omega
    · obtain rfl : k = n := by omega
      have Hcat := Lib.hid hcat
      clear hcat hvl
      go_wp2_with fail
      go_end0
      refine ⟨rfl, v2, ?_, hchg, hv2⟩
      have := Hcat.out
      rw [List.drop_of_length_le (by rw [Hb.out]; exact Nat.le_refl _)] at this
      simp only [List.flatten_nil, List.append_nil] at this
      rw [← this]
      exact h2

set_option maxHeartbeats 400000 in
set_option maxRecDepth 100000 in
theorem each_nil_uint8 (g : Nat) (A : Option Addr) (n c : Nat) (v : Value) (xs : List UInt8) (w : World) (h : IsW w g v xs) (hn : n ≤ 140737488355328) (hroom : xs.length + (Pk.free n).length ≤ 140737488355328) :
    Calls Try.prog 98 #[.pointer (some ⟨g, 0, none⟩), .slice A n c, .nilFunc] w fun e w' => e = .returned (.tuple #[]) ∧ Wrote w w' g v (xs ++ Pk.free n) := by
  have c0 : w.cell? ⟨g, 0, none⟩ = some (.bool true) := by rw [h.blk.cell]; rfl
  have hfn : ∀ w : World, (binOp .eql 88 .nilFunc .nilFunc).run Try.prog w = .ok (.bool true) w := fun _ => by kernel_rfl
  go_enter Try.func98, Try.ntmps98
  go_wp2_with fail
  refine (free_calls g n v xs w h (by unfold U64; omega) (by omega)).mono ?_
  rintro e w1 ⟨rfl, hw⟩
  go_wp2_with fail
  refine bodyPost_ret (results_none rfl _ _ _) rfl ?_
  exact ⟨rfl, hw⟩
end Go.Proofs.Ytkajbpdhglaieaa
