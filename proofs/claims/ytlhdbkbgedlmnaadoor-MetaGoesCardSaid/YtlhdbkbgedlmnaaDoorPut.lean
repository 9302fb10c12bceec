/-
  pack.Put: a fixed number laid, at each type that the statements reach. Printed by gen_pack.py.
-/
import Derived.Test.YtlhdbkbgedlmnaaDoorWid
import Derived.Test.YtlhdbkbgedlmnaaDoorWr
namespace Go.Proofs.YtlhdbkbgedlmnaaDoor
open Go.RowKit
set_option linter.unusedVariables false

set_option maxHeartbeats 1600000 in
set_option maxRecDepth 100000 in
theorem put_uint8 (g : Nat) (x : Int) (v : Value) (xs : List UInt8) (w : World) (h : IsW w g v xs) (hroom : xs.length + 1 ≤ 140737488355328) (hx : Hid (0 ≤ x ∧ x < 256)) :
    Calls Tryd.prog 42 #[.pointer (some ⟨g, 0, none⟩), .int .u8 x] w fun e w' => e = .returned (.tuple #[]) ∧ Wrote w w' g v (xs ++ Pk.be 1 x) := by
  obtain ⟨i0, hi, hz0, hz1, hz2⟩ := info_parts info_u8
  have c0 : w.cell? ⟨g, 0, none⟩ = some (.bool true) := by rw [h.blk.cell]; rfl
  have c1 : w.cell? ⟨g, 1, none⟩ = some v := by rw [h.blk.cell]; rfl
  go_enter Tryd.func42, Tryd.ntmps42
  go_wp2_with (go_at_call 61; refine (width_uint8 _).mono ?_; rintro e w' ⟨rfl, rfl⟩)
  go_loopw [4] (fun iv wr => ∃ (k : Nat) (ys : List UInt8) (v1 : Value), k ≤ 1 ∧ iv = .int .i64 ((k : Int) - 1) ∧ IsW wr g v1 ys ∧ ys ++ Pk.be k x = xs ++ Pk.be 1 x ∧
      Chg (fun k => k = g ∨ v.ownBlock = some k) w wr ∧ ∀ k, v1.ownBlock = some k → v.ownBlock = some k ∨ w.heap.size ≤ k) (fun iv _ => (intOf iv + 1).toNat)
  case atStart => exact ⟨1, xs, v, by omega, rfl, h, rfl, Chg.refl _ _, fun _ h => .inl h⟩
  case round =>
    obtain ⟨k, ys, v1, hk, rfl, h1, hcat, hchg, hv1⟩ := hrel
    have d0 : wr.cell? ⟨g, 0, none⟩ = some (.bool true) := by rw [h1.blk.cell]; rfl
    have d1 : wr.cell? ⟨g, 1, none⟩ = some v1 := by rw [h1.blk.cell]; rfl
    have hlen : ys.length + k ≤ 140737488355328 := by
      have := congrArg List.length hcat; simp [Pk.be_length] at this; omega
    have Hcat := Lib.hid hcat; clear hcat
    have hk' : k = 0 ∨ k = 1 := by omega
    rcases hk' with rfl | rfl
    · go_wp2_with fail
      go_end0
      refine ⟨rfl, v1, ?_, hchg, hv1⟩
      have := Hcat.out
      simp only [Pk.be, List.append_nil] at this
      subst this
      exact h1
    · go_wp2_with (at_builtin; refine wpList_append_any _ rfl (.tmp 24) (.tmp 30) _ rfl 0 5 i0 _ 1 1 Tryd.underlying54 hi hz0 hz1 hz2 rfl (by omega) v1 ys.length (bys ys) rfl (h1.own.alloc _) (wr.heap.size + 1) (some ⟨wr.heap.size, 0, none⟩) 1 1 [.int .u8 (x)] rfl (Reads.one _ _ _ _ rfl) (by simp [Value.oneCell']) (by unfold maxLen; omega) (by omega) (by omega) ?_; intro v2 w1 hown2 hgr hat; obtain ⟨ao2, cp2, rfl⟩ := own_form hown2; have hb1 := (h1.blk.alloc _).grown hgr (Ne.symm (own_blk_ne h1.own h1.blk (by decide))); have e1 := hb1.cell 1; have f1 := hb1.frozen 1)
      go_roundw
      case rel =>
        have hb := Pk.byte_of (x)
        have hx' := hx.out
        have hx2 : x % 256 = x := by omega
        have st := wrote_step (b := UInt8.ofNat ((x) % 256).toNat) h1 hchg hv1 h.blk.lt (by rw [← hb, hx2]; exact hown2) hgr (own_at hat)
        refine ⟨0, ys ++ [UInt8.ofNat ((x) % 256).toNat], _, by omega, rfl, st.1, ?_, st.2.1, st.2.2⟩
        have := Hcat.out
        simp [Pk.be] at this ⊢
        exact this
      case measure => simp [intOf]

set_option maxHeartbeats 1600000 in
set_option maxRecDepth 100000 in
theorem put_uint16 (g : Nat) (x : Int) (v : Value) (xs : List UInt8) (w : World) (h : IsW w g v xs) (hroom : xs.length + 2 ≤ 140737488355328) :
    Calls Tryd.prog 44 #[.pointer (some ⟨g, 0, none⟩), .int .u16 x] w fun e w' => e = .returned (.tuple #[]) ∧ Wrote w w' g v (xs ++ Pk.be 2 x) := by
  obtain ⟨i0, hi, hz0, hz1, hz2⟩ := info_parts info_u8
  have c0 : w.cell? ⟨g, 0, none⟩ = some (.bool true) := by rw [h.blk.cell]; rfl
  have c1 : w.cell? ⟨g, 1, none⟩ = some v := by rw [h.blk.cell]; rfl
  go_enter Tryd.func44, Tryd.ntmps44
  go_wp2_with (go_at_call 62; refine (width_uint16 _).mono ?_; rintro e w' ⟨rfl, rfl⟩)
  go_loopw [4] (fun iv wr => ∃ (k : Nat) (ys : List UInt8) (v1 : Value), k ≤ 2 ∧ iv = .int .i64 ((k : Int) - 1) ∧ IsW wr g v1 ys ∧ ys ++ Pk.be k x = xs ++ Pk.be 2 x ∧
      Chg (fun k => k = g ∨ v.ownBlock = some k) w wr ∧ ∀ k, v1.ownBlock = some k → v.ownBlock = some k ∨ w.heap.size ≤ k) (fun iv _ => (intOf iv + 1).toNat)
  case atStart => exact ⟨2, xs, v, by omega, rfl, h, rfl, Chg.refl _ _, fun _ h => .inl h⟩
  case round =>
    obtain ⟨k, ys, v1, hk, rfl, h1, hcat, hchg, hv1⟩ := hrel
    have d0 : wr.cell? ⟨g, 0, none⟩ = some (.bool true) := by rw [h1.blk.cell]; rfl
    have d1 : wr.cell? ⟨g, 1, none⟩ = some v1 := by rw [h1.blk.cell]; rfl
    have hlen : ys.length + k ≤ 140737488355328 := by
      have := congrArg List.length hcat; simp [Pk.be_length] at this; omega
    have Hcat := Lib.hid hcat; clear hcat
    have hk' : k = 0 ∨ k = 1 ∨ k = 2 := by omega
    rcases hk' with rfl | rfl | rfl
    · go_wp2_with fail
      go_end0
      refine ⟨rfl, v1, ?_, hchg, hv1⟩
      have := Hcat.out
      simp only [Pk.be, List.append_nil] at this
      subst this
      exact h1
    · go_wp2_with (at_builtin; refine wpList_append_any _ rfl (.tmp 24) (.tmp 31) _ rfl 0 5 i0 _ 1 1 Tryd.underlying54 hi hz0 hz1 hz2 rfl (by omega) v1 ys.length (bys ys) rfl (h1.own.alloc _) (wr.heap.size + 1) (some ⟨wr.heap.size, 0, none⟩) 1 1 [.int .u8 (x % 256)] rfl (Reads.one _ _ _ _ rfl) (by simp [Value.oneCell']) (by unfold maxLen; omega) (by omega) (by omega) ?_; intro v2 w1 hown2 hgr hat; obtain ⟨ao2, cp2, rfl⟩ := own_form hown2; have hb1 := (h1.blk.alloc _).grown hgr (Ne.symm (own_blk_ne h1.own h1.blk (by decide))); have e1 := hb1.cell 1; have f1 := hb1.frozen 1)
      go_roundw
      case rel =>
        have hb := Pk.byte_of (x)
        have st := wrote_step (b := UInt8.ofNat ((x) % 256).toNat) h1 hchg hv1 h.blk.lt (by rw [← hb]; exact hown2) hgr (own_at hat)
        refine ⟨0, ys ++ [UInt8.ofNat ((x) % 256).toNat], _, by omega, rfl, st.1, ?_, st.2.1, st.2.2⟩
        have := Hcat.out
        simp [Pk.be] at this ⊢
        exact this
      case measure => simp [intOf]
    · go_wp2_with (at_builtin; refine wpList_append_any _ rfl (.tmp 24) (.tmp 31) _ rfl 0 5 i0 _ 1 1 Tryd.underlying54 hi hz0 hz1 hz2 rfl (by omega) v1 ys.length (bys ys) rfl (h1.own.alloc _) (wr.heap.size + 1) (some ⟨wr.heap.size, 0, none⟩) 1 1 [.int .u8 (x / 256 % 256)] rfl (Reads.one _ _ _ _ rfl) (by simp [Value.oneCell']) (by unfold maxLen; omega) (by omega) (by omega) ?_; intro v2 w1 hown2 hgr hat; obtain ⟨ao2, cp2, rfl⟩ := own_form hown2; have hb1 := (h1.blk.alloc _).grown hgr (Ne.symm (own_blk_ne h1.own h1.blk (by decide))); have e1 := hb1.cell 1; have f1 := hb1.frozen 1)
      go_roundw
      case rel =>
        have hb := Pk.byte_of (x / 256)
        have st := wrote_step (b := UInt8.ofNat ((x / 256) % 256).toNat) h1 hchg hv1 h.blk.lt (by rw [← hb]; exact hown2) hgr (own_at hat)
        refine ⟨1, ys ++ [UInt8.ofNat ((x / 256) % 256).toNat], _, by omega, rfl, st.1, ?_, st.2.1, st.2.2⟩
        have := Hcat.out
        simp [Pk.be] at this ⊢
        exact this
      case measure => simp [intOf]

set_option maxHeartbeats 1600000 in
set_option maxRecDepth 100000 in
theorem put_uint32 (g : Nat) (x : Int) (v : Value) (xs : List UInt8) (w : World) (h : IsW w g v xs) (hroom : xs.length + 4 ≤ 140737488355328) :
    Calls Tryd.prog 41 #[.pointer (some ⟨g, 0, none⟩), .int .u32 x] w fun e w' => e = .returned (.tuple #[]) ∧ Wrote w w' g v (xs ++ Pk.be 4 x) := by
  obtain ⟨i0, hi, hz0, hz1, hz2⟩ := info_parts info_u8
  have c0 : w.cell? ⟨g, 0, none⟩ = some (.bool true) := by rw [h.blk.cell]; rfl
  have c1 : w.cell? ⟨g, 1, none⟩ = some v := by rw [h.blk.cell]; rfl
  go_enter Tryd.func41, Tryd.ntmps41
  go_wp2_with (go_at_call 60; refine (width_uint32 _).mono ?_; rintro e w' ⟨rfl, rfl⟩)
  go_loopw [4] (fun iv wr => ∃ (k : Nat) (ys : List UInt8) (v1 : Value), k ≤ 4 ∧ iv = .int .i64 ((k : Int) - 1) ∧ IsW wr g v1 ys ∧ ys ++ Pk.be k x = xs ++ Pk.be 4 x ∧
      Chg (fun k => k = g ∨ v.ownBlock = some k) w wr ∧ ∀ k, v1.ownBlock = some k → v.ownBlock = some k ∨ w.heap.size ≤ k) (fun iv _ => (intOf iv + 1).toNat)
  case atStart => exact ⟨4, xs, v, by omega, rfl, h, rfl, Chg.refl _ _, fun _ h => .inl h⟩
  case round =>
    obtain ⟨k, ys, v1, hk, rfl, h1, hcat, hchg, hv1⟩ := hrel
    have d0 : wr.cell? ⟨g, 0, none⟩ = some (.bool true) := by rw [h1.blk.cell]; rfl
    have d1 : wr.cell? ⟨g, 1, none⟩ = some v1 := by rw [h1.blk.cell]; rfl
    have hlen : ys.length + k ≤ 140737488355328 := by
      have := congrArg List.length hcat; simp [Pk.be_length] at this; omega
    have Hcat := Lib.hid hcat; clear hcat
    have hk' : k = 0 ∨ k = 1 ∨ k = 2 ∨ k = 3 ∨ k = 4 := by omega
    rcases hk' with rfl | rfl | rfl | rfl | rfl
    · go_wp2_with fail
      go_end0
      refine ⟨rfl, v1, ?_, hchg, hv1⟩
      have := Hcat.out
      simp only [Pk.be, List.append_nil] at this
      subst this
      exact h1
    · go_wp2_with (at_builtin; refine wpList_append_any _ rfl (.tmp 24) (.tmp 31) _ rfl 0 5 i0 _ 1 1 Tryd.underlying54 hi hz0 hz1 hz2 rfl (by omega) v1 ys.length (bys ys) rfl (h1.own.alloc _) (wr.heap.size + 1) (some ⟨wr.heap.size, 0, none⟩) 1 1 [.int .u8 (x % 256)] rfl (Reads.one _ _ _ _ rfl) (by simp [Value.oneCell']) (by unfold maxLen; omega) (by omega) (by omega) ?_; intro v2 w1 hown2 hgr hat; obtain ⟨ao2, cp2, rfl⟩ := own_form hown2; have hb1 := (h1.blk.alloc _).grown hgr (Ne.symm (own_blk_ne h1.own h1.blk (by decide))); have e1 := hb1.cell 1; have f1 := hb1.frozen 1)
      go_roundw
      case rel =>
        have hb := Pk.byte_of (x)
        have st := wrote_step (b := UInt8.ofNat ((x) % 256).toNat) h1 hchg hv1 h.blk.lt (by rw [← hb]; exact hown2) hgr (own_at hat)
        refine ⟨0, ys ++ [UInt8.ofNat ((x) % 256).toNat], _, by omega, rfl, st.1, ?_, st.2.1, st.2.2⟩
        have := Hcat.out
        simp [Pk.be] at this ⊢
        exact this
      case measure => simp [intOf]
    · go_wp2_with (at_builtin; refine wpList_append_any _ rfl (.tmp 24) (.tmp 31) _ rfl 0 5 i0 _ 1 1 Tryd.underlying54 hi hz0 hz1 hz2 rfl (by omega) v1 ys.length (bys ys) rfl (h1.own.alloc _) (wr.heap.size + 1) (some ⟨wr.heap.size, 0, none⟩) 1 1 [.int .u8 (x / 256 % 256)] rfl (Reads.one _ _ _ _ rfl) (by simp [Value.oneCell']) (by unfold maxLen; omega) (by omega) (by omega) ?_; intro v2 w1 hown2 hgr hat; obtain ⟨ao2, cp2, rfl⟩ := own_form hown2; have hb1 := (h1.blk.alloc _).grown hgr (Ne.symm (own_blk_ne h1.own h1.blk (by decide))); have e1 := hb1.cell 1; have f1 := hb1.frozen 1)
      go_roundw
      case rel =>
        have hb := Pk.byte_of (x / 256)
        have st := wrote_step (b := UInt8.ofNat ((x / 256) % 256).toNat) h1 hchg hv1 h.blk.lt (by rw [← hb]; exact hown2) hgr (own_at hat)
        refine ⟨1, ys ++ [UInt8.ofNat ((x / 256) % 256).toNat], _, by omega, rfl, st.1, ?_, st.2.1, st.2.2⟩
        have := Hcat.out
        simp [Pk.be] at this ⊢
        exact this
      case measure => simp [intOf]
    · go_wp2_with (at_builtin; refine wpList_append_any _ rfl (.tmp 24) (.tmp 31) _ rfl 0 5 i0 _ 1 1 Tryd.underlying54 hi hz0 hz1 hz2 rfl (by omega) v1 ys.length (bys ys) rfl (h1.own.alloc _) (wr.heap.size + 1) (some ⟨wr.heap.size, 0, none⟩) 1 1 [.int .u8 (x / 65536 % 256)] rfl (Reads.one _ _ _ _ rfl) (by simp [Value.oneCell']) (by unfold maxLen; omega) (by omega) (by omega) ?_; intro v2 w1 hown2 hgr hat; obtain ⟨ao2, cp2, rfl⟩ := own_form hown2; have hb1 := (h1.blk.alloc _).grown hgr (Ne.symm (own_blk_ne h1.own h1.blk (by decide))); have e1 := hb1.cell 1; have f1 := hb1.frozen 1)
      go_roundw
      case rel =>
        have hb := Pk.byte_of (x / 65536)
        have st := wrote_step (b := UInt8.ofNat ((x / 65536) % 256).toNat) h1 hchg hv1 h.blk.lt (by rw [← hb]; exact hown2) hgr (own_at hat)
        refine ⟨2, ys ++ [UInt8.ofNat ((x / 65536) % 256).toNat], _, by omega, rfl, st.1, ?_, st.2.1, st.2.2⟩
        have := Hcat.out
        simp [Pk.be] at this ⊢
        exact this
      case measure => simp [intOf]
    · go_wp2_with (at_builtin; refine wpList_append_any _ rfl (.tmp 24) (.tmp 31) _ rfl 0 5 i0 _ 1 1 Tryd.underlying54 hi hz0 hz1 hz2 rfl (by omega) v1 ys.length (bys ys) rfl (h1.own.alloc _) (wr.heap.size + 1) (some ⟨wr.heap.size, 0, none⟩) 1 1 [.int .u8 (x / 16777216 % 256)] rfl (Reads.one _ _ _ _ rfl) (by simp [Value.oneCell']) (by unfold maxLen; omega) (by omega) (by omega) ?_; intro v2 w1 hown2 hgr hat; obtain ⟨ao2, cp2, rfl⟩ := own_form hown2; have hb1 := (h1.blk.alloc _).grown hgr (Ne.symm (own_blk_ne h1.own h1.blk (by decide))); have e1 := hb1.cell 1; have f1 := hb1.frozen 1)
      go_roundw
      case rel =>
        have hb := Pk.byte_of (x / 16777216)
        have st := wrote_step (b := UInt8.ofNat ((x / 16777216) % 256).toNat) h1 hchg hv1 h.blk.lt (by rw [← hb]; exact hown2) hgr (own_at hat)
        refine ⟨3, ys ++ [UInt8.ofNat ((x / 16777216) % 256).toNat], _, by omega, rfl, st.1, ?_, st.2.1, st.2.2⟩
        have := Hcat.out
        simp [Pk.be] at this ⊢
        exact this
      case measure => simp [intOf]

end Go.Proofs.YtlhdbkbgedlmnaaDoor
