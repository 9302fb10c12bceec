/-
  pack.Reader: Raw, Text, Signed.
-/
import Derived.Test.YtlhdbkbgedlmnaaDoorRfree
import Derived.Laws.DeepNot64
namespace Go.Proofs.YtlhdbkbgedlmnaaDoor
open Go.RowKit
set_option linter.unusedVariables false

set_option maxHeartbeats 1000000 in
set_option maxRecDepth 100000 in
theorem rraw_calls (g : Nat) (n : Int) (r : Pk.Rd) (w : World) (h : IsR w g r) :
    Calls Tryd.prog 78 #[.pointer (some ⟨g, 0, none⟩), .int .i64 n] w fun e w' => e = .returned (S (r.raw n).1) ∧ Red w w' g (r.raw n).2 := by
  have c1 := h.c1
  have c2 := h.c2
  have f2 := h.blk.frozen 2
  have le := h.le
  have len := h.len
  by_cases hf : r.f = 0
  · have Hf := Lib.hid hf
    by_cases hn : n ≤ 0
    · have Hr := Lib.hid (show r.raw n = ([], r) by unfold Pk.Rd.raw; rw [if_pos (.inr hn)])
      clear hf
      go_enter Tryd.func78, Tryd.ntmps78
      go_wp2_with (go_at_call 75; refine (dead_no g r _ h Hf.out).mono ?_; rintro e w' ⟨rfl, rfl⟩)
      go_ret
      rw [Hr.out]
      exact ⟨rfl, Red.refl h⟩
    · by_cases hl : (r.left : Int) < n
      · have Hr := Lib.hid (show r.raw n = ([], ⟨r.s, r.pos, 10⟩) by unfold Pk.Rd.raw; rw [if_neg (by omega), if_pos hl])
        clear hf
        go_enter Tryd.func78, Tryd.ntmps78
        go_wp2_with (first | (go_at_call 75; refine (dead_no g r _ h Hf.out).mono ?_; rintro e w' ⟨rfl, rfl⟩) | (go_at_call 76; refine (left_calls g r _ h).mono ?_; rintro e w' ⟨rfl, nq, rfl⟩) | (go_at_call 77; refine (fail_calls g r 10 10 r.pos _ rfl (h.drewN nq) le).mono ?_; rintro e w' ⟨rfl, hred⟩))
        go_ret
        rw [Hr.out]
        exact ⟨rfl, hred.drewN⟩
      · have hlt : (n : Int) ≤ r.left := by omega
        unfold Pk.Rd.left at hlt
        obtain ⟨k, rfl⟩ : ∃ k : Nat, n = k := ⟨n.toNat, by omega⟩
        have Hr := Lib.hid (show r.raw k = ((r.s.drop r.pos).take k, ⟨r.s, r.pos + k, r.f⟩) by unfold Pk.Rd.raw; rw [if_neg (by omega), if_neg hl]; rfl)
        have hl2 : ¬ ((r.left : Int) < k) := hl
        clear hf hl
        have hw : IntKind.i64.wrap ((r.pos : Int) + (k : Int)) = (r.pos : Int) + (k : Int) := IntWalk.i64_in _ (by omega)
        have hsl := fun w => run_slice_S (P := Tryd.prog) 9 Tryd.underlying9 r.s r.pos (r.pos + k) (r.pos : Int) ((r.pos : Int) + (k : Int)) rfl (by omega) (by omega) (by omega) w
        rw [show r.pos + k - r.pos = k by omega] at hsl
        go_enter Tryd.func78, Tryd.ntmps78
        go_wp2_with (first | (go_at_call 75; refine (dead_no g r _ h Hf.out).mono ?_; rintro e w' ⟨rfl, rfl⟩) | (go_at_call 76; refine (left_calls g r _ h).mono ?_; rintro e w' ⟨rfl, nq, rfl⟩))
        go_quiet (fail)
        go_wp2_with fail
        go_ret
        rw [Hr.out]
        refine ⟨rfl, ⟨?_, by simp; omega, h.len⟩, Chg.setCell (p := ⟨g, 2, none⟩) (((Chg.refl (fun k => k = g) w).drewN _)) (.inl rfl) _⟩
        show Blk _ g _ #[.bool true, S r.s, .int .i64 ((r.pos + k : Nat) : Int), .int .i64 r.f]
        rw [show ((r.pos + k : Nat) : Int) = (r.pos : Int) + (k : Int) by omega]
        exact (h.drewN _).blk.set_ 2 _
  · have hr : r.raw n = ([], r) := by unfold Pk.Rd.raw; rw [if_pos (.inl hf)]
    go_enter Tryd.func78, Tryd.ntmps78
    go_wp2_with (go_at_call 75; refine (dead_yes g r _ h hf).mono ?_; rintro e w' ⟨rfl, rfl⟩)
    go_ret
    rw [hr]
    exact ⟨rfl, Red.refl h⟩

theorem rraw_callsI (g : Nat) (ni n : Int) (r : Pk.Rd) (w : World) (hni : ni = n) (h : IsR w g r) :
    Calls Tryd.prog 78 #[.pointer (some ⟨g, 0, none⟩), .int .i64 ni] w fun e w' => e = .returned (S (r.raw n).1) ∧ Red w w' g (r.raw n).2 := by
  subst hni; exact rraw_calls g ni r w h
/-- the number that a signed free number says -/
def unzig (n : Nat) : Int := if n % 2 = 1 then -((n / 2 : Nat) : Int) - 1 else ((n / 2 : Nat) : Int)
theorem unzig_bits (n : Nat) (h : n < 18446744073709551616) :
    bits BinOp.xor IntKind.i64 (wrap64 ((n : Int) / 2)) (wrap64 (-wrap64 (bits BinOp.and IntKind.u64 (n : Int) 1))) = unzig n := by
  have e1 : bits BinOp.and IntKind.u64 (n : Int) 1 = ((n % 2 : Nat) : Int) := by
    refine (u64_and_nat n 1 h (by omega)).trans ?_
    rw [Nat.and_one_is_mod]
  have e2 : wrap64 ((n : Int) / 2) = ((n / 2 : Nat) : Int) := by unfold wrap64; omega
  rw [e1, e2]
  rcases Nat.mod_two_eq_zero_or_one n with h0 | h0
  · rw [h0]
    have e3 : wrap64 (-wrap64 ((0 : Nat) : Int)) = 0 := by unfold wrap64; omega
    rw [e3, unzig, if_neg (by omega)]
    unfold bits
    have e4 : BitVec.ofInt IntKind.i64.bits 0 = 0#_ := rfl
    simp only [e4, BitVec.xor_zero]
    have hlt : n / 2 < 9223372036854775808 := by omega
    generalize n / 2 = m at *
    have e5 : (BitVec.ofInt IntKind.i64.bits (m : Int)).toNat = m := by
      rw [BitVec.toNat_ofInt]
      simp [IntKind.bits]
      omega
    rw [e5, IntWalk.i64_in _ (by omega)]
  · rw [h0]
    have e3 : wrap64 (-wrap64 ((1 : Nat) : Int)) = -1 := by unfold wrap64; omega
    rw [e3, unzig, if_pos (by omega)]
    have e4 : ∀ a b : Int, bits BinOp.xor IntKind.i64 a b = bits BinOp.xor IntKind.i64 b a := by
      intro a b
      unfold bits
      simp only [BitVec.xor_comm]
    rw [e4]
    refine (i64_not (n / 2) (by omega)).trans ?_
    omega
theorem get_lt {l : List UInt8} {v k : Nat} (h : Pk.get l 0 0 = .good v k) : v < 18446744073709551616 := by
  obtain ⟨m, hv, _, _, _, hm, _⟩ := Pk.get_sound l 0 0 v k (by omega) h
  simpa [hv] using hm
theorem rfree_lt (r : Pk.Rd) (most : Nat) : (r.free most).1 < 18446744073709551616 := by
  unfold Pk.Rd.free
  split
  · show 0 < _; omega
  · split
    · show 0 < _; omega
    · rename_i h
      split
      · show 0 < _; omega
      · exact get_lt h
theorem rfree_s (r : Pk.Rd) (most : Nat) : (r.free most).2.s = r.s := by
  unfold Pk.Rd.free
  split
  · rfl
  · split
    · rfl
    · split <;> rfl
theorem text_bad {r : Pk.Rd} {most : Int} (hf : r.f = 0) (h : (r.free most.toNat).2.f ≠ 0) : r.text most = ([], (r.free most.toNat).2) := by
  unfold Pk.Rd.text; rw [if_neg (by omega)]; simp only [if_pos h]
theorem text_ends {r : Pk.Rd} {most : Int} (hf : r.f = 0) (h : (r.free most.toNat).2.f = 0) (hl : (r.free most.toNat).2.left < (r.free most.toNat).1) :
    r.text most = ([], { (r.free most.toNat).2 with f := 10, pos := r.pos }) := by
  unfold Pk.Rd.text; rw [if_neg (by omega)]; simp only [if_neg (show ¬ (r.free most.toNat).2.f ≠ 0 by omega), if_pos hl]
theorem text_good {r : Pk.Rd} {most : Int} (hf : r.f = 0) (h : (r.free most.toNat).2.f = 0) (hl : (r.free most.toNat).1 ≤ (r.free most.toNat).2.left) :
    r.text most = (r.free most.toNat).2.raw (r.free most.toNat).1 := by
  unfold Pk.Rd.text; rw [if_neg (by omega)]; simp only [if_neg (show ¬ (r.free most.toNat).2.f ≠ 0 by omega), if_neg (show ¬ (r.free most.toNat).2.left < (r.free most.toNat).1 by omega)]

/-- a number read, brought into its kind -/
def tk (k : IntKind) (n : Nat) : Int := k.wrap n
theorem num_snoc (l : List UInt8) (b : UInt8) : Pk.num (l ++ [b]) = Pk.num l * 256 + b.toNat := by simp [Pk.num]
theorem num_lt (l : List UInt8) (n : Nat) (h : l.length ≤ n) : Pk.num l < 256 ^ n := by
  have key : ∀ (l : List UInt8) (x : Nat), l.foldl (fun x b => x * 256 + b.toNat) x < (x + 1) * 256 ^ l.length := by
    intro l
    induction l with
    | nil => intro x; simp
    | cons b l ih =>
      intro x
      have h1 := ih (x * 256 + b.toNat)
      have h2 := b.toNat_lt
      have h3 : (x * 256 + b.toNat + 1) * 256 ^ l.length ≤ ((x + 1) * 256) * 256 ^ l.length := Nat.mul_le_mul_right _ (by omega)
      simp only [List.foldl_cons, List.length_cons, Nat.pow_succ]
      rw [Nat.mul_comm (256 ^ l.length) 256, ← Nat.mul_assoc]
      omega
  have := key l 0
  rw [Nat.zero_add, Nat.one_mul] at this
  exact Nat.lt_of_lt_of_le this (Nat.pow_le_pow_right (by decide) h)
theorem num_take (r : Pk.Rd) {i : Nat} (hend : r.pos + i < r.s.length) {b : UInt8} (hb : r.s[r.pos + i]? = some b) :
    Pk.num ((r.s.drop r.pos).take (i + 1)) = Pk.num ((r.s.drop r.pos).take i) * 256 + b.toNat := by
  rw [← num_snoc, List.take_succ_eq_append_getElem (by simp; omega)]
  congr 2
  rw [List.getElem?_eq_getElem hend] at hb
  injection hb with hb
  simp [hb]
theorem num_bits (x i b : Nat) (hx : x < 256 ^ i) (hi : i < 8) (hb : b < 256) :
    bits BinOp.or IntKind.u64 (IntKind.u64.wrap ((x : Int) * 256)) (IntKind.u64.wrap (b : Int)) = ((x * 256 + b : Nat) : Int) := by
  have h7 : 256 ^ i ≤ 256 ^ 7 := Nat.pow_le_pow_right (by decide) (by omega)
  have h8 : (256 : Nat) ^ 7 = 72057594037927936 := by decide
  rw [IntKind.wrap_u64, IntKind.wrap_u64]
  have e1 : (x : Int) * 256 % 18446744073709551616 = ((x * 256 : Nat) : Int) := by omega
  have e2 : (b : Int) % 18446744073709551616 = (b : Int) := by omega
  rw [e1, e2]
  refine (u64_or_nat (x * 256) b (by omega) (by omega)).trans ?_
  have := Nat.two_pow_add_eq_or_of_lt (i := 8) (b := b) (by omega) x
  rw [show x * 256 = 2 ^ 8 * x by omega, ← this]
theorem tk_u8 (n : Nat) (h : n < 256 ^ 1) : ((n : Int) % 256) = tk .u8 n := by unfold tk; rw [IntKind.wrap_u8']
theorem tk_u16 (n : Nat) (h : n < 256 ^ 2) : ((n : Int) % 65536) = tk .u16 n := by unfold tk; rw [IntKind.wrap_u16]
theorem tk_u32 (n : Nat) (h : n < 256 ^ 4) : ((n : Int) % 4294967296) = tk .u32 n := by unfold tk; rw [IntKind.wrap_u32']
theorem tk_u64 (n : Nat) (h : n < 256 ^ 8) : (n : Int) = tk .u64 n := by
  unfold tk; rw [IntKind.wrap_u64]
  have h8 : (256 : Nat) ^ 8 = 18446744073709551616 := by decide
  omega
end Go.Proofs.YtlhdbkbgedlmnaaDoor
