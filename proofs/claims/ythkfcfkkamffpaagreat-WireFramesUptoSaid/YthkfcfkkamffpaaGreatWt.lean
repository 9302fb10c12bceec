/-
  pack.Writer: New, Text, Signed, Len, String.
-/
import Derived.Test.YthkfcfkkamffpaaGreatRead
import Derived.Test.YthkfcfkkamffpaaGreatWm
namespace Go.Proofs.YthkfcfkkamffpaaGreat
open Go.RowKit
set_option linter.unusedVariables false

/-- 1 shifted left n times -/
def tw (k : IntKind) (n : Nat) : Int := k.wrap (2 ^ n)
theorem tw_u (k : IntKind) (n : Nat) : k.wrap (tw k n * 2) = tw k (n + 1) := by
  unfold tw
  rw [Int.pow_succ]
  cases k <;> simp [IntKind.wrap, IntKind.bits, IntKind.signed] <;> omega
theorem tw_u8 (n : Nat) : tw .u8 n * 2 % 256 = tw .u8 (n + 1) := by have := tw_u .u8 n; simpa [IntKind.wrap, IntKind.bits, IntKind.signed] using this
theorem tw_u32 (n : Nat) : tw .u32 n * 2 % 4294967296 = tw .u32 (n + 1) := by have := tw_u .u32 n; simpa [IntKind.wrap, IntKind.bits, IntKind.signed] using this
theorem tw_u64 (n : Nat) : tw .u64 n * 2 % 18446744073709551616 = tw .u64 (n + 1) := by have := tw_u .u64 n; simpa [IntKind.wrap, IntKind.bits, IntKind.signed] using this
theorem tw_i32 (n : Nat) : wrap32 (tw .i32 n * 2) = tw .i32 (n + 1) := by
  unfold tw wrap32
  rw [Int.pow_succ]
  simp [IntKind.wrap, IntKind.bits, IntKind.signed]
  omega
theorem tw_i64 (n : Nat) : wrap64 (tw .i64 n * 2) = tw .i64 (n + 1) := by
  unfold tw wrap64
  rw [Int.pow_succ]
  simp [IntKind.wrap, IntKind.bits, IntKind.signed]
  omega

set_option maxHeartbeats 400000 in
set_option maxRecDepth 100000 in
theorem width_uint8 (w : World) : Calls Tryz.prog 192 #[] w fun e w' => e = .returned (.int .i64 1) ∧ w = w' := by
  go_enter Tryz.func192, Tryz.ntmps192
  go_wp2_with fail
  go_loop [1, 2] (fun nv xv => ∃ k : Nat, k ≤ 8 ∧ nv = .int .i64 k ∧ xv = .int .u8 (tw .u8 k)) (fun nv _ => 8 - (intOf nv).toNat)
  case atStart => exact ⟨0, by omega, rfl, rfl⟩
  case round =>
    obtain ⟨k, hk, rfl, rfl⟩ := hrel
    by_cases h : k < 8
    · have hne : (tw .u8 k != 0) = true := by
        have : ∀ j : Fin 8, (tw .u8 j.val != 0) = true := by decide +kernel
        exact this ⟨k, h⟩
      go_wp2_with fail
      go_roundw
      case rel => exact ⟨k + 1, by omega, by go_num, by first | rw [tw_u] | rw [tw_u8] | rw [tw_u32] | rw [tw_u64] | rw [tw_i32] | rw [tw_i64]⟩
      case measure => simp [intOf]; omega
    · obtain rfl : k = 8 := by omega
      have hz : (tw .u8 8 != 0) = false := by decide +kernel
      go_wp2_with fail
      go_ret
      exact ⟨rfl, rfl⟩

set_option maxHeartbeats 400000 in
set_option maxRecDepth 100000 in
theorem width_uint32 (w : World) : Calls Tryz.prog 72 #[] w fun e w' => e = .returned (.int .i64 4) ∧ w = w' := by
  go_enter Tryz.func72, Tryz.ntmps72
  go_wp2_with fail
  go_loop [1, 2] (fun nv xv => ∃ k : Nat, k ≤ 32 ∧ nv = .int .i64 k ∧ xv = .int .u32 (tw .u32 k)) (fun nv _ => 32 - (intOf nv).toNat)
  case atStart => exact ⟨0, by omega, rfl, rfl⟩
  case round =>
    obtain ⟨k, hk, rfl, rfl⟩ := hrel
    by_cases h : k < 32
    · have hne : (tw .u32 k != 0) = true := by
        have : ∀ j : Fin 32, (tw .u32 j.val != 0) = true := by decide +kernel
        exact this ⟨k, h⟩
      go_wp2_with fail
      go_roundw
      case rel => exact ⟨k + 1, by omega, by go_num, by first | rw [tw_u] | rw [tw_u8] | rw [tw_u32] | rw [tw_u64] | rw [tw_i32] | rw [tw_i64]⟩
      case measure => simp [intOf]; omega
    · obtain rfl : k = 32 := by omega
      have hz : (tw .u32 32 != 0) = false := by decide +kernel
      go_wp2_with fail
      go_ret
      exact ⟨rfl, rfl⟩

set_option maxHeartbeats 400000 in
set_option maxRecDepth 100000 in
theorem width_kind (w : World) : Calls Tryz.prog 71 #[] w fun e w' => e = .returned (.int .i64 1) ∧ w = w' := by
  go_enter Tryz.func71, Tryz.ntmps71
  go_wp2_with fail
  go_loop [1, 2] (fun nv xv => ∃ k : Nat, k ≤ 8 ∧ nv = .int .i64 k ∧ xv = .int .u8 (tw .u8 k)) (fun nv _ => 8 - (intOf nv).toNat)
  case atStart => exact ⟨0, by omega, rfl, rfl⟩
  case round =>
    obtain ⟨k, hk, rfl, rfl⟩ := hrel
    by_cases h : k < 8
    · have hne : (tw .u8 k != 0) = true := by
        have : ∀ j : Fin 8, (tw .u8 j.val != 0) = true := by decide +kernel
        exact this ⟨k, h⟩
      go_wp2_with fail
      go_roundw
      case rel => exact ⟨k + 1, by omega, by go_num, by first | rw [tw_u] | rw [tw_u8] | rw [tw_u32] | rw [tw_u64] | rw [tw_i32] | rw [tw_i64]⟩
      case measure => simp [intOf]; omega
    · obtain rfl : k = 8 := by omega
      have hz : (tw .u8 8 != 0) = false := by decide +kernel
      go_wp2_with fail
      go_ret
      exact ⟨rfl, rfl⟩
end Go.Proofs.YthkfcfkkamffpaaGreat
namespace Go.Proofs.YthkfcfkkamffpaaGreat
open Go.RowKit
set_option linter.unusedVariables false

theorem info_u8 : (Tryz.prog.info? 5).map (fun i => (i.zero, i.size, i.bytes)) = some (some (.int .u8 0), 1, 1) := by kernel_rfl

/-- Block g is a Writer that holds the bytes xs; v is its slice. -/
structure IsW (w : World) (g : Nat) (v : Value) (xs : List UInt8) : Prop where
  blk : Blk w g 127 #[.bool true, v]
  own : w.ownsRow 0 5 1 v xs.length (bys xs)

/-- From w to w' the Writer g, whose slice was v, has come to hold xs. -/
def Wrote (w w' : World) (g : Nat) (v : Value) (xs : List UInt8) : Prop :=
  ∃ v', IsW w' g v' xs ∧ Chg (fun k => k = g ∨ v.ownBlock = some k) w w' ∧ ∀ k, v'.ownBlock = some k → v.ownBlock = some k ∨ w.heap.size ≤ k

theorem Wrote.refl {w : World} {g : Nat} {v : Value} {xs : List UInt8} (h : IsW w g v xs) : Wrote w w g v xs := ⟨v, h, Chg.refl _ _, fun _ h => .inl h⟩

/-- one byte appended, and the slice stored back -/
theorem wrote_step {w wr w1 : World} {g : Nat} {v v1 v2 : Value} {xs : List UInt8} {b : UInt8} {o : Obj} (h : IsW wr g v1 xs)
    (hc : Chg (fun k => k = g ∨ v.ownBlock = some k) w wr) (hv : ∀ k, v1.ownBlock = some k → v.ownBlock = some k ∨ w.heap.size ≤ k) (hg : g < w.heap.size)
    (hown : w1.ownsRow 0 5 1 v2 (xs.length + 1) (bys xs ++ [.int .u8 b.toNat])) (hgr : (wr.alloc o).grownBy w1 v1.ownBlock)
    (hne : ∀ k, v2.ownBlock = some k → v1.ownBlock = some k ∨ (wr.alloc o).heap.size ≤ k) :
    IsW (w1.setCell ⟨g, 1, none⟩ v2) g v2 (xs ++ [b]) ∧ Chg (fun k => k = g ∨ v.ownBlock = some k) w (w1.setCell ⟨g, 1, none⟩ v2) ∧
      ∀ k, v2.ownBlock = some k → v.ownBlock = some k ∨ w.heap.size ≤ k := by
  have hb1 : Blk w1 g _ _ := (h.blk.alloc o).grown hgr (Ne.symm (own_blk_ne h.own h.blk (by decide)))
  refine ⟨⟨hb1.set_ 1 v2, ?_⟩, ?_, ?_⟩
  · have := own_far (p := ⟨g, 1, none⟩) hown (own_blk_ne hown hb1 (by decide)) v2
    simpa [bys_append, bys] using this
  · refine ((hc.alloc o).grown hgr fun k hk => ?_).setCell (.inl (.inl rfl)) _
    rcases hv k hk with h | h
    · exact .inl (.inr h)
    · exact .inr h
  · intro k hk
    rcases hne k hk with h | h
    · exact hv k h
    · right; have := hc.size; simp at h; omega


set_option maxHeartbeats 400000 in
set_option maxRecDepth 100000 in
theorem free_calls (g n : Nat) (v : Value) (xs : List UInt8) (w : World) (h : IsW w g v xs) (hn : U64 n) (hroom : xs.length + (Pk.free n).length ≤ 140737488355328) :
    Calls Tryz.prog 119 #[.pointer (some ⟨g, 0, none⟩), .int .u64 n] w fun e w' => e = .returned (.tuple #[]) ∧ Wrote w w' g v (xs ++ Pk.free n) := by
  obtain ⟨i0, hi, hz0, hz1, hz2⟩ := info_parts info_u8
  have c0 : w.cell? ⟨g, 0, none⟩ = some (.bool true) := by rw [h.blk.cell]; rfl
  have c1 : w.cell? ⟨g, 1, none⟩ = some v := by rw [h.blk.cell]; rfl
  go_enter Tryz.func119, Tryz.ntmps119
  go_wp2_with fail
  go_loopw [1] (fun nv wr => ∃ (m : Nat) (ys : List UInt8) (v1 : Value), nv = .int .u64 m ∧ U64 m ∧ IsW wr g v1 ys ∧ ys ++ Pk.free m = xs ++ Pk.free n ∧
      Chg (fun k => k = g ∨ v.ownBlock = some k) w wr ∧ ∀ k, v1.ownBlock = some k → v.ownBlock = some k ∨ w.heap.size ≤ k) (fun nv _ => (intOf nv).toNat)
  case atStart => exact ⟨n, xs, v, rfl, hn, h, rfl, Chg.refl _ _, fun _ h => .inl h⟩
  case round =>
    obtain ⟨m, ys, v1, rfl, hm, h1, hcat, hchg, hv1⟩ := hrel
    have d0 : wr.cell? ⟨g, 0, none⟩ = some (.bool true) := by rw [h1.blk.cell]; rfl
    have d1 : wr.cell? ⟨g, 1, none⟩ = some v1 := by rw [h1.blk.cell]; rfl
    have hlen : ys.length + (Pk.free m).length ≤ 140737488355328 := by
      have := congrArg List.length hcat; simp at this; omega
    have hpos := Pk.free_length_pos m
    have Hcat := Lib.hid hcat; clear hcat
    by_cases hbig : 128 ≤ m
    · go_wp2_with (at_builtin; refine wpList_append_any _ rfl (.tmp 19) (.tmp 23) _ rfl 0 5 i0 _ 1 1 Tryz.underlying49 hi hz0 hz1 hz2 rfl (by omega) v1 ys.length (bys ys) rfl (h1.own.alloc _) (wr.heap.size + 1) (some ⟨wr.heap.size, 0, none⟩) 1 1 [.int .u8 (bits BinOp.or IntKind.u8 ((m : Int) % 256) 128)] rfl (Reads.one _ _ _ _ rfl) (by simp [Value.oneCell']) (by unfold maxLen; omega) (by omega) (by omega) ?_; intro v2 w1 hown2 hgr hat; obtain ⟨ao2, cp2, rfl⟩ := own_form hown2; have hb1 := (h1.blk.alloc _).grown hgr (Ne.symm (own_blk_ne h1.own h1.blk (by decide))); have e1 := hb1.cell 1; have f1 := hb1.frozen 1)
      go_roundw
      case rel =>
        have st := wrote_step (b := UInt8.ofNat (m % 128 + 128)) h1 hchg hv1 h.blk.lt (by rw [← or128]; exact hown2) hgr (own_at hat)
        refine ⟨m / 128, ys ++ [UInt8.ofNat (m % 128 + 128)], _, by go_num, by unfold U64 at *; omega, st.1, ?_, st.2.1, st.2.2⟩
        rw [← Hcat.out, Pk.free_big hbig]; simp
      case measure => simp [intOf]; omega
    · go_wp2_with (at_builtin; refine wpList_append_any _ rfl (.tmp 33) (.tmp 36) _ rfl 0 5 i0 _ 1 1 Tryz.underlying49 hi hz0 hz1 hz2 rfl (by omega) v1 ys.length (bys ys) rfl (h1.own.alloc _) (wr.heap.size + 1) (some ⟨wr.heap.size, 0, none⟩) 1 1 [.int .u8 (m : Int)] rfl (Reads.one _ _ _ _ rfl) (by simp [Value.oneCell']) (by unfold maxLen; omega) (by omega) (by omega) ?_; intro v2 w1 hown2 hgr hat; obtain ⟨ao2, cp2, rfl⟩ := own_form hown2; have hb1 := (h1.blk.alloc _).grown hgr (Ne.symm (own_blk_ne h1.own h1.blk (by decide))); have e1 := hb1.cell 1; have f1 := hb1.frozen 1)
      go_end0
      have hb : (UInt8.ofNat m).toNat = m := by simp; omega
      have st := wrote_step (b := UInt8.ofNat m) h1 hchg hv1 h.blk.lt (by rw [hb]; exact hown2) hgr (own_at hat)
      refine ⟨rfl, _, ?_, st.2.1, st.2.2⟩
      rw [← Hcat.out, Pk.free_small (by omega)]
      exact st.1

/-- a string appended, and the slice stored back -/
theorem wrote_text {w wr w1 : World} {g : Nat} {v v1 v2 : Value} {xs l : List UInt8} (h : IsW wr g v1 xs)
    (hc : Chg (fun k => k = g ∨ v.ownBlock = some k) w wr) (hv : ∀ k, v1.ownBlock = some k → v.ownBlock = some k ∨ w.heap.size ≤ k)
    (hown : w1.ownsRow 0 5 1 v2 (xs.length + l.length) (bys xs ++ bys l)) (hgr : wr.grownBy w1 v1.ownBlock)
    (hne : ∀ k, v2.ownBlock = some k → v1.ownBlock = some k ∨ wr.heap.size ≤ k) :
    IsW (w1.setCell ⟨g, 1, none⟩ v2) g v2 (xs ++ l) ∧ Chg (fun k => k = g ∨ v.ownBlock = some k) w (w1.setCell ⟨g, 1, none⟩ v2) ∧
      ∀ k, v2.ownBlock = some k → v.ownBlock = some k ∨ w.heap.size ≤ k := by
  have hb1 : Blk w1 g _ _ := h.blk.grown hgr (Ne.symm (own_blk_ne h.own h.blk (by decide)))
  refine ⟨⟨hb1.set_ 1 v2, ?_⟩, ?_, ?_⟩
  · have := own_far (p := ⟨g, 1, none⟩) hown (own_blk_ne hown hb1 (by decide)) v2
    simpa [bys_append] using this
  · refine (hc.grown hgr fun k hk => ?_).setCell (.inl (.inl rfl)) _
    rcases hv k hk with h | h
    · exact .inl (.inr h)
    · exact .inr h
  · intro k hk
    rcases hne k hk with h | h
    · exact hv k h
    · right; have := hc.size; omega

theorem drop_at {α : Type} (l : List α) {k : Nat} (hk : k < l.length) : ∃ x, l[k]? = some x ∧ l.drop k = x :: l.drop (k + 1) :=
  ⟨l[k], List.getElem?_eq_getElem hk, List.drop_eq_getElem_cons hk⟩
def strs (parts : List (List UInt8)) : List Value := parts.map S

set_option maxHeartbeats 400000 in
set_option maxRecDepth 100000 in
theorem raw_calls (g : Nat) (A : Option Addr) (n c : Nat) (parts : List (List UInt8)) (v : Value) (xs : List UInt8) (w : World) (h : IsW w g v xs)
    (hl : Lst w A n (strs parts)) (hf : 0 < n → ∀ ad, A = some ad → ad.block ≠ g ∧ v.ownBlock ≠ some ad.block) (hn : n ≤ 140737488355328) (hroom : xs.length + parts.flatten.length ≤ 140737488355328) :
    Calls Tryz.prog 45 #[.pointer (some ⟨g, 0, none⟩), .slice A n c] w fun e w' => e = .returned (.tuple #[]) ∧ Wrote w w' g v (xs ++ parts.flatten) := by
  obtain ⟨i0, hi, hz0, hz1, hz2⟩ := info_parts info_u8
  have c0 : w.cell? ⟨g, 0, none⟩ = some (.bool true) := by rw [h.blk.cell]; rfl
  have c1 : w.cell? ⟨g, 1, none⟩ = some v := by rw [h.blk.cell]; rfl
  go_enter Tryz.func45, Tryz.ntmps45
  go_wp2_with fail
  go_loopw [17] (fun iv wr => ∃ (k : Nat) (ys : List UInt8) (v1 : Value), k ≤ n ∧ iv = .int .i64 k ∧ IsW wr g v1 ys ∧ ys ++ (parts.drop k).flatten = xs ++ parts.flatten ∧
      Chg (fun k => k = g ∨ v.ownBlock = some k) w wr ∧ ∀ k, v1.ownBlock = some k → v.ownBlock = some k ∨ w.heap.size ≤ k) (fun iv _ => n - (intOf iv).toNat)
  case atStart => exact ⟨0, xs, v, by omega, rfl, h, rfl, Chg.refl _ _, fun _ h => .inl h⟩
  case round =>
    obtain ⟨k, ys, v1, hk, rfl, h1, hcat, hchg, hv1⟩ := hrel
    have d1 : wr.cell? ⟨g, 1, none⟩ = some v1 := by rw [h1.blk.cell]; rfl
    have hpl : parts.length = n := by simpa [strs] using hl.1
    by_cases hp : k < n
    · obtain ⟨b, off, u, rfl, hu, hcell⟩ := (hl.chg hchg (fun hn0 ad ha hs => by have := hf hn0 ad ha; rcases hs with hs | hs; exact this.1 hs; exact this.2 hs)).at_ hp
      obtain ⟨l, hlk, hd⟩ := drop_at parts (show k < parts.length by omega)
      obtain rfl : u = S l := by
        simp [strs, List.getElem?_map, hlk] at hu
        exact hu.symm
      rw [hd] at hcat
      have hlen : ys.length + l.length ≤ 140737488355328 := by
        have := congrArg List.length hcat; simp at this; simp at hroom; omega
      have Hcat := Lib.hid hcat
      clear hcat hlk hd hu hpl
      go_wp2_with (at_builtin; refine wpList_append_string_at _ rfl (.tmp 25) (.tmp 26) _ _ rfl 0 5 i0 Tryz.underlying49 Tryz.underlying9 hi hz0 hz1 hz2 v1 ys.length (bys ys) rfl h1.own ⟨l.toArray⟩ rfl (by show ys.length + l.length ≤ maxLen; unfold maxLen; omega) (by show ys.length + l.length ≤ _; omega) (by omega) ?_; intro v2 w1 hown2 hgr hat; obtain ⟨ao2, cp2, rfl⟩ := own_form hown2; have hb1 := h1.blk.grown hgr (Ne.symm (own_blk_ne h1.own h1.blk (by decide))); have e1 := hb1.cell 1; have f1 := hb1.frozen 1)
      go_roundw
      case rel =>
        have st := wrote_text (l := l) h1 hchg hv1 (by rw [← strCells_S]; exact hown2) hgr (own_at hat)
        refine ⟨k + 1, ys ++ l, _, by omega, by go_num, st.1, ?_, st.2.1, st.2.2⟩
        have := Hcat.out
        simpa using this
      case measure => simp [intOf]; omega
    · obtain rfl : k = n := by omega
      have Hcat := Lib.hid hcat
      have Hpl := Lib.hid hpl
      clear hcat hpl
      go_wp2_with fail
      go_end0
      refine ⟨rfl, v1, ?_, hchg, hv1⟩
      have := Hcat.out
      rw [List.drop_of_length_le (by rw [Hpl.out]; exact Nat.le_refl _)] at this
      simp only [List.flatten_nil, List.append_nil] at this
      rw [← this]
      exact h1
end Go.Proofs.YthkfcfkkamffpaaGreat
namespace Go.Proofs.YthkfcfkkamffpaaGreat
open Go.RowKit
set_option linter.unusedVariables false

set_option maxHeartbeats 1600000 in
set_option maxRecDepth 100000 in
theorem put_uint8 (g : Nat) (x : Int) (v : Value) (xs : List UInt8) (w : World) (h : IsW w g v xs) (hroom : xs.length + 1 ≤ 140737488355328) (hx : Hid (0 ≤ x ∧ x < 256)) :
    Calls Tryz.prog 175 #[.pointer (some ⟨g, 0, none⟩), .int .u8 x] w fun e w' => e = .returned (.tuple #[]) ∧ Wrote w w' g v (xs ++ Pk.be 1 x) := by
  obtain ⟨i0, hi, hz0, hz1, hz2⟩ := info_parts info_u8
  have c0 : w.cell? ⟨g, 0, none⟩ = some (.bool true) := by rw [h.blk.cell]; rfl
  have c1 : w.cell? ⟨g, 1, none⟩ = some v := by rw [h.blk.cell]; rfl
  go_enter Tryz.func175, Tryz.ntmps175
  go_wp2_with (go_at_call 192; refine (width_uint8 _).mono ?_; rintro e w' ⟨rfl, rfl⟩)
  go_loopw [4] (fun iv wr => ∃ (k : Nat) (ys : List UInt8) (v1 : Value), k ≤ 1 ∧ iv = .int .i64 ((k : Int) - 1) ∧ IsW wr g v1 ys ∧ ys ++ Pk.be k x = xs ++ Pk.be 1 x ∧
      Chg (fun k => k = g ∨ v.ownBlock = some k) w wr ∧ ∀ k, v1.ownBlock = some k → v.ownBlock = some k ∨ w.heap.size ≤ k) (fun iv _ => (intOf iv + 1).toNat)
  case atStart => exact ⟨1, xs, v, by omega, rfl, h, rfl, Chg.refl _ _, fun _ h => .inl h⟩
  case round =>
    obtain ⟨k, ys, v1, hk, rfl, h1, hcat, hchg, hv1⟩ := hrel
    have d0 : wr.cell? ⟨g, 0, none⟩ = some (.bool true) := by rw [h1.blk.cell]; rfl
    have d1 : wr.cell? ⟨g, 1, none⟩ = some v1 := by rw [h1.blk.cell]; rfl
    have hlen : ys.length + k ≤ 140737488355328 := by
      have := congrArg List.length hcat; simp [Pk.be_length] at this; omega
    have Hcat := Lib.hid hcat; clear hcat
    have hk' : k = 0 ∨ k = 1 := by omega
    rcases hk' with rfl | rfl
    · go_wp2_with fail
      go_end0
      refine ⟨rfl, v1, ?_, hchg, hv1⟩
      have := Hcat.out
      simp only [Pk.be, List.append_nil] at this
      subst this
      exact h1
    · go_wp2_with (at_builtin; refine wpList_append_any _ rfl (.tmp 24) (.tmp 30) _ rfl 0 5 i0 _ 1 1 Tryz.underlying49 hi hz0 hz1 hz2 rfl (by omega) v1 ys.length (bys ys) rfl (h1.own.alloc _) (wr.heap.size + 1) (some ⟨wr.heap.size, 0, none⟩) 1 1 [.int .u8 (x)] rfl (Reads.one _ _ _ _ rfl) (by simp [Value.oneCell']) (by unfold maxLen; omega) (by omega) (by omega) ?_; intro v2 w1 hown2 hgr hat; obtain ⟨ao2, cp2, rfl⟩ := own_form hown2; have hb1 := (h1.blk.alloc _).grown hgr (Ne.symm (own_blk_ne h1.own h1.blk (by decide))); have e1 := hb1.cell 1; have f1 := hb1.frozen 1)
      go_roundw
      case rel =>
        have hb := Pk.byte_of (x)
        have hx' := hx.out
        have hx2 : x % 256 = x := by omega
        have st := wrote_step (b := UInt8.ofNat ((x) % 256).toNat) h1 hchg hv1 h.blk.lt (by rw [← hb, hx2]; exact hown2) hgr (own_at hat)
        refine ⟨0, ys ++ [UInt8.ofNat ((x) % 256).toNat], _, by omega, rfl, st.1, ?_, st.2.1, st.2.2⟩
        have := Hcat.out
        simp [Pk.be] at this ⊢
        exact this
      case measure => simp [intOf]

set_option maxHeartbeats 1600000 in
set_option maxRecDepth 100000 in
theorem put_uint32 (g : Nat) (x : Int) (v : Value) (xs : List UInt8) (w : World) (h : IsW w g v xs) (hroom : xs.length + 4 ≤ 140737488355328) :
    Calls Tryz.prog 43 #[.pointer (some ⟨g, 0, none⟩), .int .u32 x] w fun e w' => e = .returned (.tuple #[]) ∧ Wrote w w' g v (xs ++ Pk.be 4 x) := by
  obtain ⟨i0, hi, hz0, hz1, hz2⟩ := info_parts info_u8
  have c0 : w.cell? ⟨g, 0, none⟩ = some (.bool true) := by rw [h.blk.cell]; rfl
  have c1 : w.cell? ⟨g, 1, none⟩ = some v := by rw [h.blk.cell]; rfl
  go_enter Tryz.func43, Tryz.ntmps43
  go_wp2_with (go_at_call 72; refine (width_uint32 _).mono ?_; rintro e w' ⟨rfl, rfl⟩)
  go_loopw [4] (fun iv wr => ∃ (k : Nat) (ys : List UInt8) (v1 : Value), k ≤ 4 ∧ iv = .int .i64 ((k : Int) - 1) ∧ IsW wr g v1 ys ∧ ys ++ Pk.be k x = xs ++ Pk.be 4 x ∧
      Chg (fun k => k = g ∨ v.ownBlock = some k) w wr ∧ ∀ k, v1.ownBlock = some k → v.ownBlock = some k ∨ w.heap.size ≤ k) (fun iv _ => (intOf iv + 1).toNat)
  case atStart => exact ⟨4, xs, v, by omega, rfl, h, rfl, Chg.refl _ _, fun _ h => .inl h⟩
  case round =>
    obtain ⟨k, ys, v1, hk, rfl, h1, hcat, hchg, hv1⟩ := hrel
    have d0 : wr.cell? ⟨g, 0, none⟩ = some (.bool true) := by rw [h1.blk.cell]; rfl
    have d1 : wr.cell? ⟨g, 1, none⟩ = some v1 := by rw [h1.blk.cell]; rfl
    have hlen : ys.length + k ≤ 140737488355328 := by
      have := congrArg List.length hcat; simp [Pk.be_length] at this; omega
    have Hcat := Lib.hid hcat; clear hcat
    have hk' : k = 0 ∨ k = 1 ∨ k = 2 ∨ k = 3 ∨ k = 4 := by omega
    rcases hk' with rfl | rfl | rfl | rfl | rfl
    · go_wp2_with fail
      go_end0
      refine ⟨rfl, v1, ?_, hchg, hv1⟩
      have := Hcat.out
      simp only [Pk.be, List.append_nil] at this
      subst this
      exact h1
    · go_wp2_with (at_builtin; refine wpList_append_any _ rfl (.tmp 24) (.tmp 31) _ rfl 0 5 i0 _ 1 1 Tryz.underlying49 hi hz0 hz1 hz2 rfl (by omega) v1 ys.length (bys ys) rfl (h1.own.alloc _) (wr.heap.size + 1) (some ⟨wr.heap.size, 0, none⟩) 1 1 [.int .u8 (x % 256)] rfl (Reads.one _ _ _ _ rfl) (by simp [Value.oneCell']) (by unfold maxLen; omega) (by omega) (by omega) ?_; intro v2 w1 hown2 hgr hat; obtain ⟨ao2, cp2, rfl⟩ := own_form hown2; have hb1 := (h1.blk.alloc _).grown hgr (Ne.symm (own_blk_ne h1.own h1.blk (by decide))); have e1 := hb1.cell 1; have f1 := hb1.frozen 1)
      go_roundw
      case rel =>
        have hb := Pk.byte_of (x)
        have st := wrote_step (b := UInt8.ofNat ((x) % 256).toNat) h1 hchg hv1 h.blk.lt (by rw [← hb]; exact hown2) hgr (own_at hat)
        refine ⟨0, ys ++ [UInt8.ofNat ((x) % 256).toNat], _, by omega, rfl, st.1, ?_, st.2.1, st.2.2⟩
        have := Hcat.out
        simp [Pk.be] at this ⊢
        exact this
      case measure => simp [intOf]
    · go_wp2_with (at_builtin; refine wpList_append_any _ rfl (.tmp 24) (.tmp 31) _ rfl 0 5 i0 _ 1 1 Tryz.underlying49 hi hz0 hz1 hz2 rfl (by omega) v1 ys.length (bys ys) rfl (h1.own.alloc _) (wr.heap.size + 1) (some ⟨wr.heap.size, 0, none⟩) 1 1 [.int .u8 (x / 256 % 256)] rfl (Reads.one _ _ _ _ rfl) (by simp [Value.oneCell']) (by unfold maxLen; omega) (by omega) (by omega) ?_; intro v2 w1 hown2 hgr hat; obtain ⟨ao2, cp2, rfl⟩ := own_form hown2; have hb1 := (h1.blk.alloc _).grown hgr (Ne.symm (own_blk_ne h1.own h1.blk (by decide))); have e1 := hb1.cell 1; have f1 := hb1.frozen 1)
      go_roundw
      case rel =>
        have hb := Pk.byte_of (x / 256)
        have st := wrote_step (b := UInt8.ofNat ((x / 256) % 256).toNat) h1 hchg hv1 h.blk.lt (by rw [← hb]; exact hown2) hgr (own_at hat)
        refine ⟨1, ys ++ [UInt8.ofNat ((x / 256) % 256).toNat], _, by omega, rfl, st.1, ?_, st.2.1, st.2.2⟩
        have := Hcat.out
        simp [Pk.be] at this ⊢
        exact this
      case measure => simp [intOf]
    · go_wp2_with (at_builtin; refine wpList_append_any _ rfl (.tmp 24) (.tmp 31) _ rfl 0 5 i0 _ 1 1 Tryz.underlying49 hi hz0 hz1 hz2 rfl (by omega) v1 ys.length (bys ys) rfl (h1.own.alloc _) (wr.heap.size + 1) (some ⟨wr.heap.size, 0, none⟩) 1 1 [.int .u8 (x / 65536 % 256)] rfl (Reads.one _ _ _ _ rfl) (by simp [Value.oneCell']) (by unfold maxLen; omega) (by omega) (by omega) ?_; intro v2 w1 hown2 hgr hat; obtain ⟨ao2, cp2, rfl⟩ := own_form hown2; have hb1 := (h1.blk.alloc _).grown hgr (Ne.symm (own_blk_ne h1.own h1.blk (by decide))); have e1 := hb1.cell 1; have f1 := hb1.frozen 1)
      go_roundw
      case rel =>
        have hb := Pk.byte_of (x / 65536)
        have st := wrote_step (b := UInt8.ofNat ((x / 65536) % 256).toNat) h1 hchg hv1 h.blk.lt (by rw [← hb]; exact hown2) hgr (own_at hat)
        refine ⟨2, ys ++ [UInt8.ofNat ((x / 65536) % 256).toNat], _, by omega, rfl, st.1, ?_, st.2.1, st.2.2⟩
        have := Hcat.out
        simp [Pk.be] at this ⊢
        exact this
      case measure => simp [intOf]
    · go_wp2_with (at_builtin; refine wpList_append_any _ rfl (.tmp 24) (.tmp 31) _ rfl 0 5 i0 _ 1 1 Tryz.underlying49 hi hz0 hz1 hz2 rfl (by omega) v1 ys.length (bys ys) rfl (h1.own.alloc _) (wr.heap.size + 1) (some ⟨wr.heap.size, 0, none⟩) 1 1 [.int .u8 (x / 16777216 % 256)] rfl (Reads.one _ _ _ _ rfl) (by simp [Value.oneCell']) (by unfold maxLen; omega) (by omega) (by omega) ?_; intro v2 w1 hown2 hgr hat; obtain ⟨ao2, cp2, rfl⟩ := own_form hown2; have hb1 := (h1.blk.alloc _).grown hgr (Ne.symm (own_blk_ne h1.own h1.blk (by decide))); have e1 := hb1.cell 1; have f1 := hb1.frozen 1)
      go_roundw
      case rel =>
        have hb := Pk.byte_of (x / 16777216)
        have st := wrote_step (b := UInt8.ofNat ((x / 16777216) % 256).toNat) h1 hchg hv1 h.blk.lt (by rw [← hb]; exact hown2) hgr (own_at hat)
        refine ⟨3, ys ++ [UInt8.ofNat ((x / 16777216) % 256).toNat], _, by omega, rfl, st.1, ?_, st.2.1, st.2.2⟩
        have := Hcat.out
        simp [Pk.be] at this ⊢
        exact this
      case measure => simp [intOf]

set_option maxHeartbeats 1600000 in
set_option maxRecDepth 100000 in
theorem put_kind (g : Nat) (x : Int) (v : Value) (xs : List UInt8) (w : World) (h : IsW w g v xs) (hroom : xs.length + 1 ≤ 140737488355328) (hx : Hid (0 ≤ x ∧ x < 256)) :
    Calls Tryz.prog 42 #[.pointer (some ⟨g, 0, none⟩), .int .u8 x] w fun e w' => e = .returned (.tuple #[]) ∧ Wrote w w' g v (xs ++ Pk.be 1 x) := by
  obtain ⟨i0, hi, hz0, hz1, hz2⟩ := info_parts info_u8
  have c0 : w.cell? ⟨g, 0, none⟩ = some (.bool true) := by rw [h.blk.cell]; rfl
  have c1 : w.cell? ⟨g, 1, none⟩ = some v := by rw [h.blk.cell]; rfl
  go_enter Tryz.func42, Tryz.ntmps42
  go_wp2_with (go_at_call 71; refine (width_kind _).mono ?_; rintro e w' ⟨rfl, rfl⟩)
  go_loopw [4] (fun iv wr => ∃ (k : Nat) (ys : List UInt8) (v1 : Value), k ≤ 1 ∧ iv = .int .i64 ((k : Int) - 1) ∧ IsW wr g v1 ys ∧ ys ++ Pk.be k x = xs ++ Pk.be 1 x ∧
      Chg (fun k => k = g ∨ v.ownBlock = some k) w wr ∧ ∀ k, v1.ownBlock = some k → v.ownBlock = some k ∨ w.heap.size ≤ k) (fun iv _ => (intOf iv + 1).toNat)
  case atStart => exact ⟨1, xs, v, by omega, rfl, h, rfl, Chg.refl _ _, fun _ h => .inl h⟩
  case round =>
    obtain ⟨k, ys, v1, hk, rfl, h1, hcat, hchg, hv1⟩ := hrel
    have d0 : wr.cell? ⟨g, 0, none⟩ = some (.bool true) := by rw [h1.blk.cell]; rfl
    have d1 : wr.cell? ⟨g, 1, none⟩ = some v1 := by rw [h1.blk.cell]; rfl
    have hlen : ys.length + k ≤ 140737488355328 := by
      have := congrArg List.length hcat; simp [Pk.be_length] at this; omega
    have Hcat := Lib.hid hcat; clear hcat
    have hk' : k = 0 ∨ k = 1 := by omega
    rcases hk' with rfl | rfl
    · go_wp2_with fail
      go_end0
      refine ⟨rfl, v1, ?_, hchg, hv1⟩
      have := Hcat.out
      simp only [Pk.be, List.append_nil] at this
      subst this
      exact h1
    · go_wp2_with (at_builtin; refine wpList_append_any _ rfl (.tmp 24) (.tmp 30) _ rfl 0 5 i0 _ 1 1 Tryz.underlying49 hi hz0 hz1 hz2 rfl (by omega) v1 ys.length (bys ys) rfl (h1.own.alloc _) (wr.heap.size + 1) (some ⟨wr.heap.size, 0, none⟩) 1 1 [.int .u8 (x)] rfl (Reads.one _ _ _ _ rfl) (by simp [Value.oneCell']) (by unfold maxLen; omega) (by omega) (by omega) ?_; intro v2 w1 hown2 hgr hat; obtain ⟨ao2, cp2, rfl⟩ := own_form hown2; have hb1 := (h1.blk.alloc _).grown hgr (Ne.symm (own_blk_ne h1.own h1.blk (by decide))); have e1 := hb1.cell 1; have f1 := hb1.frozen 1)
      go_roundw
      case rel =>
        have hb := Pk.byte_of (x)
        have hx' := hx.out
        have hx2 : x % 256 = x := by omega
        have st := wrote_step (b := UInt8.ofNat ((x) % 256).toNat) h1 hchg hv1 h.blk.lt (by rw [← hb, hx2]; exact hown2) hgr (own_at hat)
        refine ⟨0, ys ++ [UInt8.ofNat ((x) % 256).toNat], _, by omega, rfl, st.1, ?_, st.2.1, st.2.2⟩
        have := Hcat.out
        simp [Pk.be] at this ⊢
        exact this
      case measure => simp [intOf]
end Go.Proofs.YthkfcfkkamffpaaGreat
namespace Go.Proofs.YthkfcfkkamffpaaGreat
open Go.RowKit
set_option linter.unusedVariables false

set_option maxHeartbeats 400000 in
set_option maxRecDepth 100000 in
theorem text_calls (g : Nat) (l : List UInt8) (v : Value) (xs : List UInt8) (w : World) (h : IsW w g v xs) (hroom : xs.length + (Pk.free l.length).length + l.length ≤ 140737488355328) :
    Calls Tryz.prog 140 #[.pointer (some ⟨g, 0, none⟩), S l] w fun e w' => e = .returned (.tuple #[]) ∧ Wrote w w' g v (xs ++ (Pk.free l.length ++ l)) := by
  go_enter Tryz.func140, Tryz.ntmps140
  go_wp2_with fail
  refine (free_calls g l.length v xs w h (by unfold U64; omega) (by omega)).mono ?_
  rintro e w1 ⟨rfl, v1, h1, hc1, hv1⟩
  go_wp2_with fail
  refine (raw_calls g _ 1 1 [l] v1 _ _ ⟨h1.blk.alloc _, h1.own.alloc _⟩ (Lst.new w1 9 [S l]) ?_ (by omega) ?_).mono ?_
  · rintro - ad ⟨rfl⟩
    refine ⟨fun e => ?_, fun e => ?_⟩
    · have := h1.blk.lt; simp at e; omega
    · have := (h1.own.lt _ e).2; simp at this
  · simp; omega
  rintro e w2 ⟨rfl, v2, h2, hc2, hv2⟩
  go_wp2_with fail
  go_end0
  refine ⟨rfl, v2, by simpa using h2, (hc1.alloc _).andThen hc2 ?_, ?_⟩
  · intro k hk hs
    rcases hs with rfl | hs
    · exact .inl rfl
    · rcases hv1 k hs with h | h
      · exact .inr h
      · omega
  · intro k hk
    rcases hv2 k hk with h | h
    · exact hv1 k h
    · right; have := hc1.size; simp at h; omega

/-- a number that fits an int64 -/
def I64 (n : Int) : Prop := -9223372036854775808 ≤ n ∧ n < 9223372036854775808
theorem zig_u64 (n : Int) (h : I64 n) : U64 (Pk.zig n) := by
  unfold I64 at h; unfold U64 Pk.zig; split <;> omega
theorem xor_ones (a : Nat) (h : a < 18446744073709551616) : a ^^^ 18446744073709551615 = 18446744073709551615 - a := by
  have h1 : (BitVec.ofNat 64 a ^^^ BitVec.allOnes 64).toNat = a ^^^ 18446744073709551615 := by
    rw [BitVec.toNat_xor, BitVec.toNat_ofNat, BitVec.toNat_allOnes, Nat.mod_eq_of_lt h]
  rw [← h1, BitVec.xor_allOnes, BitVec.toNat_not, BitVec.toNat_ofNat, Nat.mod_eq_of_lt h]
theorem zig_bits (n : Int) (h : I64 n) : bits BinOp.xor IntKind.u64 (IntKind.u64.wrap (IntKind.u64.wrap n * 2)) (IntKind.u64.wrap (n / 9223372036854775808)) = ((Pk.zig n : Nat) : Int) := by
  unfold I64 at h
  rw [IntKind.wrap_u64, IntKind.wrap_u64, IntKind.wrap_u64]
  by_cases h0 : 0 ≤ n
  · have e1 : n / 9223372036854775808 = 0 := by omega
    have e2 : n % 18446744073709551616 * 2 % 18446744073709551616 = (((2 * n).toNat : Nat) : Int) := by omega
    rw [e1, e2]
    refine (u64_xor_nat (2 * n).toNat 0 (by omega) (by omega)).trans ?_
    rw [Nat.xor_zero, Pk.zig, if_pos h0]
  · have e1 : n / 9223372036854775808 = -1 := by omega
    have e2 : n % 18446744073709551616 * 2 % 18446744073709551616 = (((18446744073709551616 + 2 * n).toNat : Nat) : Int) := by omega
    rw [e1, e2]
    refine (u64_xor_nat (18446744073709551616 + 2 * n).toNat 18446744073709551615 (by omega) (by omega)).trans ?_
    rw [xor_ones _ (by omega), Pk.zig, if_neg h0]
    omega

set_option maxHeartbeats 400000 in
set_option maxRecDepth 100000 in
theorem new_calls (w : World) :
    Calls Tryz.prog 41 #[] w fun e w' => e = .returned (.pointer (some ⟨w.heap.size, 0, none⟩)) ∧ IsW w' w.heap.size (.slice none 0 0) [] ∧ Below w.heap.size w w' ∧ w'.heap.size = w.heap.size + 1 := by
  go_enter Tryz.func41, Tryz.ntmps41
  go_wp2_with fail
  go_ret
  exact ⟨rfl, ⟨Blk.new _ _ _, (World.ownsRow_nil _ _ _ _)⟩, (Below.refl _ _).alloc (Nat.le_refl _) _, by simp⟩

set_option maxHeartbeats 400000 in
set_option maxRecDepth 100000 in
theorem len_calls (g : Nat) (v : Value) (xs : List UInt8) (w : World) (h : IsW w g v xs) :
    Calls Tryz.prog 44 #[.pointer (some ⟨g, 0, none⟩)] w fun e w' => e = .returned (.int .i64 xs.length) ∧ w = w' := by
  obtain ⟨ao, cp, rfl⟩ := own_form h.own
  have c1 : w.cell? ⟨g, 1, none⟩ = some (.slice ao xs.length cp) := by rw [h.blk.cell]; rfl
  go_enter Tryz.func44, Tryz.ntmps44
  go_wp2_with fail
  go_ret
  exact ⟨rfl, rfl⟩

set_option maxHeartbeats 400000 in
set_option maxRecDepth 100000 in
theorem string_calls (g : Nat) (v : Value) (xs : List UInt8) (w : World) (h : IsW w g v xs) :
    Calls Tryz.prog 46 #[.pointer (some ⟨g, 0, none⟩)] w fun e w' => e = .returned (S xs) ∧ w = w' := by
  have c1 : w.cell? ⟨g, 1, none⟩ = some v := by rw [h.blk.cell]; rfl
  have hcv := run_convert_own (P := Tryz.prog) w 49 9 5 Tryz.underlying49 Tryz.underlying5 Tryz.underlying9 h.own
  go_enter Tryz.func46, Tryz.ntmps46
  go_wp2_with fail
  go_ret
  exact ⟨rfl, rfl⟩
end Go.Proofs.YthkfcfkkamffpaaGreat
