/-
  pack.Take: a fixed number read, at each type that the statements reach. Printed by gen_pack.py.
-/
import Derived.Test.YtlhdbkbgedlmnaaDoorRraw
import Derived.Test.YtlhdbkbgedlmnaaDoorWid
namespace Go.Proofs.YtlhdbkbgedlmnaaDoor
open Go.RowKit
set_option linter.unusedVariables false

set_option maxHeartbeats 1000000 in
set_option maxRecDepth 100000 in
theorem take_uint8 (g : Nat) (r : Pk.Rd) (w : World) (h : IsR w g r) :
    Calls Tryd.prog 53 #[.pointer (some ⟨g, 0, none⟩)] w fun e w' => e = .returned (.int .u8 (tk .u8 (r.take 1).1)) ∧ Red w w' g (r.take 1).2 := by
  have c1 := h.c1
  have c2 := h.c2
  have f2 := h.blk.frozen 2
  have le := h.le
  have len := h.len
  by_cases hf : r.f = 0
  · have Hf := Lib.hid hf
    by_cases hl : r.left < 1
    · have Hr := Lib.hid (show r.take 1 = (0, ⟨r.s, r.pos, 10⟩) by unfold Pk.Rd.take; rw [if_neg (by omega), if_pos hl])
      clear hf
      go_enter Tryd.func53, Tryd.ntmps53
      go_wp2_with (first | (go_at_call 75; refine (dead_no g r _ h Hf.out).mono ?_; rintro e w' ⟨rfl, rfl⟩) | (go_at_call 61; refine (width_uint8 _).mono ?_; rintro e w' ⟨rfl, rfl⟩) | (go_at_call 76; refine (left_calls g r _ h).mono ?_; rintro e w' ⟨rfl, nq, rfl⟩) | (go_at_call 77; refine (fail_calls g r 10 10 r.pos _ rfl (h.drewN nq) le).mono ?_; rintro e w' ⟨rfl, hred⟩))
      go_ret
      rw [Hr.out]
      exact ⟨rfl, hred.drewN⟩
    · have Hr := Lib.hid (show r.take 1 = (Pk.num ((r.s.drop r.pos).take 1), ⟨r.s, r.pos + 1, r.f⟩) by unfold Pk.Rd.take; rw [if_neg (by omega), if_neg hl])
      have hl2 : 1 ≤ r.left := by omega
      clear hf hl
      go_enter Tryd.func53, Tryd.ntmps53
      go_wp2_with (first | (go_at_call 75; refine (dead_no g r _ h Hf.out).mono ?_; rintro e w' ⟨rfl, rfl⟩) | (go_at_call 61; refine (width_uint8 _).mono ?_; rintro e w' ⟨rfl, rfl⟩) | (go_at_call 76; refine (left_calls g r _ h).mono ?_; rintro e w' ⟨rfl, nq, rfl⟩))
      go_loopw [4, 5, 20] (fun xv _ iv wr => ∃ (i m : Nat), i ≤ 1 ∧ iv = .int .i64 i ∧ xv = .int .u64 (Pk.num ((r.s.drop r.pos).take i)) ∧ wr = w.drewN m) (fun _ _ iv _ => 1 - (intOf iv).toNat)
      case atStart => exact ⟨0, nq, by omega, rfl, by simp [Pk.num], rfl⟩
      case round =>
        obtain ⟨i, m, hi, rfl, rfl, rfl⟩ := hrel
        by_cases hp : i < 1
        · have hend : r.pos + i < r.s.length := by unfold Pk.Rd.left at hl2; omega
          obtain ⟨b, hb, hd⟩ := drop_at r.s hend
          have hbi : (⟨r.s.toArray⟩ : ByteArray)[r.pos + i]'(by simpa [ByteArray.size] using hend) = b := by
            have : r.s[r.pos + i] = b := by rw [List.getElem?_eq_getElem hend] at hb; injection hb
            simpa [ByteArray.getElem_eq_getElem_data] using this
          have hnum := num_take r hend hb
          have hx := num_bits (Pk.num ((r.s.drop r.pos).take i)) i b.toNat (num_lt _ i (by simp; omega)) (by omega) b.toNat_lt
          rw [← hnum] at hx
          have hw : IntKind.i64.wrap ((r.pos : Int) + (i : Int)) = (r.pos : Int) + (i : Int) := IntWalk.i64_in _ (by omega)
          have h0 : 0 ≤ (r.pos : Int) + (i : Int) := by omega
          have h1 : (r.pos : Int) + (i : Int) < (r.s.length : Int) := by omega
          have ht : ((r.pos : Int) + (i : Int)).toNat = r.pos + i := by omega
          clear hb hd hnum
          go_wp2_with fail
          go_quiet (fail)
          go_wp2_with fail
          go_roundw
          case rel => exact ⟨i + 1, _, by omega, by go_num, rfl, rfl⟩
          case measure => simp [intOf]; omega
        · obtain rfl : i = 1 := by omega
          go_wp2_with fail
          go_ret
          rw [Hr.out]
          refine ⟨by first | rfl | (refine ret_int ?_; exact tk_u8 _ (num_lt _ 1 (by simp; unfold Pk.Rd.left at hl2; omega))), ⟨?_, by unfold Pk.Rd.left at hl2; simp; omega, h.len⟩, Chg.setCell (p := ⟨g, 2, none⟩) ((Chg.refl (fun k => k = g) w).drewN _) (.inl rfl) _⟩
          show Blk _ g _ #[.bool true, S r.s, .int .i64 ((r.pos + 1 : Nat) : Int), .int .i64 r.f]
          rw [show ((r.pos + 1 : Nat) : Int) = (r.pos : Int) + 1 by omega]
          exact (h.drewN _).blk.set_ 2 _
  · have hr : r.take 1 = (0, r) := by unfold Pk.Rd.take; rw [if_pos hf]
    go_enter Tryd.func53, Tryd.ntmps53
    go_wp2_with (go_at_call 75; refine (dead_yes g r _ h hf).mono ?_; rintro e w' ⟨rfl, rfl⟩)
    go_ret
    rw [hr]
    exact ⟨rfl, Red.refl h⟩

set_option maxHeartbeats 1000000 in
set_option maxRecDepth 100000 in
theorem take_uint16 (g : Nat) (r : Pk.Rd) (w : World) (h : IsR w g r) :
    Calls Tryd.prog 54 #[.pointer (some ⟨g, 0, none⟩)] w fun e w' => e = .returned (.int .u16 (tk .u16 (r.take 2).1)) ∧ Red w w' g (r.take 2).2 := by
  have c1 := h.c1
  have c2 := h.c2
  have f2 := h.blk.frozen 2
  have le := h.le
  have len := h.len
  by_cases hf : r.f = 0
  · have Hf := Lib.hid hf
    by_cases hl : r.left < 2
    · have Hr := Lib.hid (show r.take 2 = (0, ⟨r.s, r.pos, 10⟩) by unfold Pk.Rd.take; rw [if_neg (by omega), if_pos hl])
      clear hf
      go_enter Tryd.func54, Tryd.ntmps54
      go_wp2_with (first | (go_at_call 75; refine (dead_no g r _ h Hf.out).mono ?_; rintro e w' ⟨rfl, rfl⟩) | (go_at_call 62; refine (width_uint16 _).mono ?_; rintro e w' ⟨rfl, rfl⟩) | (go_at_call 76; refine (left_calls g r _ h).mono ?_; rintro e w' ⟨rfl, nq, rfl⟩) | (go_at_call 77; refine (fail_calls g r 10 10 r.pos _ rfl (h.drewN nq) le).mono ?_; rintro e w' ⟨rfl, hred⟩))
      go_ret
      rw [Hr.out]
      exact ⟨rfl, hred.drewN⟩
    · have Hr := Lib.hid (show r.take 2 = (Pk.num ((r.s.drop r.pos).take 2), ⟨r.s, r.pos + 2, r.f⟩) by unfold Pk.Rd.take; rw [if_neg (by omega), if_neg hl])
      have hl2 : 2 ≤ r.left := by omega
      clear hf hl
      go_enter Tryd.func54, Tryd.ntmps54
      go_wp2_with (first | (go_at_call 75; refine (dead_no g r _ h Hf.out).mono ?_; rintro e w' ⟨rfl, rfl⟩) | (go_at_call 62; refine (width_uint16 _).mono ?_; rintro e w' ⟨rfl, rfl⟩) | (go_at_call 76; refine (left_calls g r _ h).mono ?_; rintro e w' ⟨rfl, nq, rfl⟩))
      go_loopw [4, 5, 20] (fun xv _ iv wr => ∃ (i m : Nat), i ≤ 2 ∧ iv = .int .i64 i ∧ xv = .int .u64 (Pk.num ((r.s.drop r.pos).take i)) ∧ wr = w.drewN m) (fun _ _ iv _ => 2 - (intOf iv).toNat)
      case atStart => exact ⟨0, nq, by omega, rfl, by simp [Pk.num], rfl⟩
      case round =>
        obtain ⟨i, m, hi, rfl, rfl, rfl⟩ := hrel
        by_cases hp : i < 2
        · have hend : r.pos + i < r.s.length := by unfold Pk.Rd.left at hl2; omega
          obtain ⟨b, hb, hd⟩ := drop_at r.s hend
          have hbi : (⟨r.s.toArray⟩ : ByteArray)[r.pos + i]'(by simpa [ByteArray.size] using hend) = b := by
            have : r.s[r.pos + i] = b := by rw [List.getElem?_eq_getElem hend] at hb; injection hb
            simpa [ByteArray.getElem_eq_getElem_data] using this
          have hnum := num_take r hend hb
          have hx := num_bits (Pk.num ((r.s.drop r.pos).take i)) i b.toNat (num_lt _ i (by simp; omega)) (by omega) b.toNat_lt
          rw [← hnum] at hx
          have hw : IntKind.i64.wrap ((r.pos : Int) + (i : Int)) = (r.pos : Int) + (i : Int) := IntWalk.i64_in _ (by omega)
          have h0 : 0 ≤ (r.pos : Int) + (i : Int) := by omega
          have h1 : (r.pos : Int) + (i : Int) < (r.s.length : Int) := by omega
          have ht : ((r.pos : Int) + (i : Int)).toNat = r.pos + i := by omega
          clear hb hd hnum
          go_wp2_with fail
          go_quiet (fail)
          go_wp2_with fail
          go_roundw
          case rel => exact ⟨i + 1, _, by omega, by go_num, rfl, rfl⟩
          case measure => simp [intOf]; omega
        · obtain rfl : i = 2 := by omega
          go_wp2_with fail
          go_ret
          rw [Hr.out]
          refine ⟨by first | rfl | (refine ret_int ?_; exact tk_u16 _ (num_lt _ 2 (by simp; unfold Pk.Rd.left at hl2; omega))), ⟨?_, by unfold Pk.Rd.left at hl2; simp; omega, h.len⟩, Chg.setCell (p := ⟨g, 2, none⟩) ((Chg.refl (fun k => k = g) w).drewN _) (.inl rfl) _⟩
          show Blk _ g _ #[.bool true, S r.s, .int .i64 ((r.pos + 2 : Nat) : Int), .int .i64 r.f]
          rw [show ((r.pos + 2 : Nat) : Int) = (r.pos : Int) + 2 by omega]
          exact (h.drewN _).blk.set_ 2 _
  · have hr : r.take 2 = (0, r) := by unfold Pk.Rd.take; rw [if_pos hf]
    go_enter Tryd.func54, Tryd.ntmps54
    go_wp2_with (go_at_call 75; refine (dead_yes g r _ h hf).mono ?_; rintro e w' ⟨rfl, rfl⟩)
    go_ret
    rw [hr]
    exact ⟨rfl, Red.refl h⟩

set_option maxHeartbeats 1000000 in
set_option maxRecDepth 100000 in
theorem take_uint32 (g : Nat) (r : Pk.Rd) (w : World) (h : IsR w g r) :
    Calls Tryd.prog 52 #[.pointer (some ⟨g, 0, none⟩)] w fun e w' => e = .returned (.int .u32 (tk .u32 (r.take 4).1)) ∧ Red w w' g (r.take 4).2 := by
  have c1 := h.c1
  have c2 := h.c2
  have f2 := h.blk.frozen 2
  have le := h.le
  have len := h.len
  by_cases hf : r.f = 0
  · have Hf := Lib.hid hf
    by_cases hl : r.left < 4
    · have Hr := Lib.hid (show r.take 4 = (0, ⟨r.s, r.pos, 10⟩) by unfold Pk.Rd.take; rw [if_neg (by omega), if_pos hl])
      clear hf
      go_enter Tryd.func52, Tryd.ntmps52
      go_wp2_with (first | (go_at_call 75; refine (dead_no g r _ h Hf.out).mono ?_; rintro e w' ⟨rfl, rfl⟩) | (go_at_call 60; refine (width_uint32 _).mono ?_; rintro e w' ⟨rfl, rfl⟩) | (go_at_call 76; refine (left_calls g r _ h).mono ?_; rintro e w' ⟨rfl, nq, rfl⟩) | (go_at_call 77; refine (fail_calls g r 10 10 r.pos _ rfl (h.drewN nq) le).mono ?_; rintro e w' ⟨rfl, hred⟩))
      go_ret
      rw [Hr.out]
      exact ⟨rfl, hred.drewN⟩
    · have Hr := Lib.hid (show r.take 4 = (Pk.num ((r.s.drop r.pos).take 4), ⟨r.s, r.pos + 4, r.f⟩) by unfold Pk.Rd.take; rw [if_neg (by omega), if_neg hl])
      have hl2 : 4 ≤ r.left := by omega
      clear hf hl
      go_enter Tryd.func52, Tryd.ntmps52
      go_wp2_with (first | (go_at_call 75; refine (dead_no g r _ h Hf.out).mono ?_; rintro e w' ⟨rfl, rfl⟩) | (go_at_call 60; refine (width_uint32 _).mono ?_; rintro e w' ⟨rfl, rfl⟩) | (go_at_call 76; refine (left_calls g r _ h).mono ?_; rintro e w' ⟨rfl, nq, rfl⟩))
      go_loopw [4, 5, 20] (fun xv _ iv wr => ∃ (i m : Nat), i ≤ 4 ∧ iv = .int .i64 i ∧ xv = .int .u64 (Pk.num ((r.s.drop r.pos).take i)) ∧ wr = w.drewN m) (fun _ _ iv _ => 4 - (intOf iv).toNat)
      case atStart => exact ⟨0, nq, by omega, rfl, by simp [Pk.num], rfl⟩
      case round =>
        obtain ⟨i, m, hi, rfl, rfl, rfl⟩ := hrel
        by_cases hp : i < 4
        · have hend : r.pos + i < r.s.length := by unfold Pk.Rd.left at hl2; omega
          obtain ⟨b, hb, hd⟩ := drop_at r.s hend
          have hbi : (⟨r.s.toArray⟩ : ByteArray)[r.pos + i]'(by simpa [ByteArray.size] using hend) = b := by
            have : r.s[r.pos + i] = b := by rw [List.getElem?_eq_getElem hend] at hb; injection hb
            simpa [ByteArray.getElem_eq_getElem_data] using this
          have hnum := num_take r hend hb
          have hx := num_bits (Pk.num ((r.s.drop r.pos).take i)) i b.toNat (num_lt _ i (by simp; omega)) (by omega) b.toNat_lt
          rw [← hnum] at hx
          have hw : IntKind.i64.wrap ((r.pos : Int) + (i : Int)) = (r.pos : Int) + (i : Int) := IntWalk.i64_in _ (by omega)
          have h0 : 0 ≤ (r.pos : Int) + (i : Int) := by omega
          have h1 : (r.pos : Int) + (i : Int) < (r.s.length : Int) := by omega
          have ht : ((r.pos : Int) + (i : Int)).toNat = r.pos + i := by omega
          clear hb hd hnum
          go_wp2_with fail
          go_quiet (fail)
          go_wp2_with fail
          go_roundw
          case rel => exact ⟨i + 1, _, by omega, by go_num, rfl, rfl⟩
          case measure => simp [intOf]; omega
        · obtain rfl : i = 4 := by omega
          go_wp2_with fail
          go_ret
          rw [Hr.out]
          refine ⟨by first | rfl | (refine ret_int ?_; exact tk_u32 _ (num_lt _ 4 (by simp; unfold Pk.Rd.left at hl2; omega))), ⟨?_, by unfold Pk.Rd.left at hl2; simp; omega, h.len⟩, Chg.setCell (p := ⟨g, 2, none⟩) ((Chg.refl (fun k => k = g) w).drewN _) (.inl rfl) _⟩
          show Blk _ g _ #[.bool true, S r.s, .int .i64 ((r.pos + 4 : Nat) : Int), .int .i64 r.f]
          rw [show ((r.pos + 4 : Nat) : Int) = (r.pos : Int) + 4 by omega]
          exact (h.drewN _).blk.set_ 2 _
  · have hr : r.take 4 = (0, r) := by unfold Pk.Rd.take; rw [if_pos hf]
    go_enter Tryd.func52, Tryd.ntmps52
    go_wp2_with (go_at_call 75; refine (dead_yes g r _ h hf).mono ?_; rintro e w' ⟨rfl, rfl⟩)
    go_ret
    rw [hr]
    exact ⟨rfl, Red.refl h⟩

end Go.Proofs.YtlhdbkbgedlmnaaDoor
