/-
  The document's answer: heartwoodref01's Free, Signed, Text, Join, Fixed, Width, Digest.
-/
import Derived.Test.YthkfcfkkamffpaaGreatStep
namespace Go.Proofs.YthkfcfkkamffpaaGreat
open Go.RowKit
set_option linter.unusedVariables false

theorem conv_byte (w : World) (a : Addr) (x : Int) (b : UInt8) (hx : x = b.toNat) (h : w.cell? a = some (.int .u8 x)) : (convert 49 9 (.slice (some a) 1 1)).run Tryz.prog w = .ok (S [b]) w := by
  have := run_convert_bytes_back (P := Tryz.prog) w 49 9 5 a 1 [b] Tryz.underlying49 Tryz.underlying5 Tryz.underlying9 (fun j hj => by
    have : j = 0 := by simpa using hj
    subst this
    have e : a.add 0 = a := by unfold Addr.add; cases a with | mk b o v => cases v <;> simp
    rw [e, h, hx]; simp)
  exact this
theorem conv_new (w : World) (x : Int) (b : UInt8) (hx : x = b.toNat) : (convert 49 9 (.slice (some ⟨w.heap.size, 0, none⟩) 1 1)).run Tryz.prog (w.alloc (.cells #[.int .u8 x] 5)) = .ok (S [b]) (w.alloc (.cells #[.int .u8 x] 5)) :=
  conv_byte _ _ x b hx (by rw [(Blk.new w 5 #[.int .u8 x]).cell]; rfl)
theorem conv_newd (w : World) (x : Int) (b : UInt8) (hx : x = b.toNat) : (convert 49 9 (.slice (some ⟨w.heap.size, 0, none⟩) 1 1)).run Tryz.prog (w.alloc (.cells #[.int .u8 x] 5)).drew = .ok (S [b]) (w.alloc (.cells #[.int .u8 x] 5)).drew :=
  conv_byte _ _ x b hx ((Blk.new w 5 #[.int .u8 x]).drew.cell 0)
theorem ret_S {a b : List UInt8} (h : a = b) : Ending.returned (S a) = .returned (S b) := by rw [h]
/-- a text joined to another one -/
theorem add_S (a b : List UInt8) (h : a.length + b.length ≤ 9223372036854775807) (w : World) : (Op.stringOp .add ⟨a.toArray⟩ ⟨b.toArray⟩).run Tryz.prog w = .ok (S (a ++ b)) w := by
  have := run_string_add_sum (P := Tryz.prog) (w := w) (⟨a.toArray⟩ : ByteArray) ⟨b.toArray⟩ (by simpa [ByteArray.size] using h)
  rw [this, ByteArray.mk_append_mk]

set_option maxHeartbeats 1000000 in
set_option maxRecDepth 100000 in
theorem ref_free (k : Nat) : ∀ (n : Nat) (hk : n < 128 ^ (k + 1)) (hn : U64 n) (w : World),
    Calls Tryz.prog 66 #[.int .u64 n] w fun e w' => e = .returned (S (Pk.free n)) ∧ Chg (fun _ => False) w w' := by
  induction k with
  | zero =>
    intro n hk hn w
    have h : n < 128 := by simpa using hk
    have hcv := fun w => conv_new w n (UInt8.ofNat n) (by simp; omega)
    have hd : decide ((n : Int) < 128) = true := by simp; omega
    go_enter Tryz.func66, Tryz.ntmps66
    go_wp2_with fail
    go_ret
    exact ⟨ret_S (Pk.free_small h).symm, (Chg.refl _ w).alloc _⟩
  | succ k ih =>
    intro n hk hn w
    by_cases h : n < 128
    · have hcv := fun w => conv_new w n (UInt8.ofNat n) (by simp; omega)
      have hd : decide ((n : Int) < 128) = true := by simp; omega
      go_enter Tryz.func66, Tryz.ntmps66
      go_wp2_with fail
      go_ret
      exact ⟨ret_S (Pk.free_small h).symm, (Chg.refl _ w).alloc _⟩
    · have hd : decide ((n : Int) < 128) = false := by simp; omega
      obtain ⟨q, hq⟩ : ∃ q, q = n / 128 := ⟨_, rfl⟩
      obtain ⟨m, hm⟩ : ∃ m, m = n % 128 := ⟨_, rfl⟩
      obtain ⟨z, hz⟩ : ∃ z, z = m + 128 := ⟨_, rfl⟩
      obtain ⟨l1, hl1⟩ : ∃ l, l = [UInt8.ofNat (n % 128 + 128)] := ⟨_, rfl⟩
      have hzb : (z : Int) = (UInt8.ofNat (n % 128 + 128)).toNat := by simp; omega
      have ih := fun w => ih q (by rw [Nat.pow_succ] at hk; omega) (by unfold U64 at *; omega) w
      have e1 : (n : Int).tmod 128 = (m : Int) := by rw [Int.tmod_eq_emod_of_nonneg (by omega)]; omega
      have e2 : IntKind.u8.wrap (m : Int) = (m : Int) := by simp [IntKind.wrap, IntKind.bits, IntKind.signed]; omega
      have e3 : IntKind.u8.wrap ((m : Int) + 128) = (z : Int) := by simp [IntKind.wrap, IntKind.bits, IntKind.signed]; omega
      have e4 : (n : Int) / 128 = (q : Int) := by omega
      have e5 : IntKind.u64.wrap (q : Int) = (q : Int) := by unfold U64 at hn; simp [IntKind.wrap, IntKind.bits, IntKind.signed]; omega
      have hq10 : (Pk.free q).length ≤ 10 := Pk.free_length_ten (by unfold U64 at hn; omega)
      have hadd := fun w => add_S l1 (Pk.free q) (by rw [hl1]; simp; omega) w
      have hcv := fun w => conv_new w z _ hzb
      have hcd := fun w => conv_newd w z _ hzb
      rw [← hl1] at hcv hcd
      have hfin : Pk.free n = l1 ++ Pk.free q := by rw [Pk.free_big (by omega), hl1, hq]; rfl
      have Hfin := Lib.hid hfin
      have Hzb := Lib.hid hzb
      have Hl1 := Lib.hid hl1
      clear hfin hzb hl1 hz hm hq
      go_enter Tryz.func66, Tryz.ntmps66
      go_wp2_with fail
      go_region_with (go_at_call 66; refine (ih _).mono ?_; rintro e w1 ⟨rfl, c1⟩; first
        | (have hc1 := c1.cell (p := ⟨w.heap.size, 0, none⟩) (by simp) (fun h => h); simp at hc1; have hcv1 := conv_byte w1 ⟨w.heap.size, 0, none⟩ z _ Hzb.out hc1; rw [← Hl1.out] at hcv1)
        | skip)
      all_goals
        go_wp2_with fail
        go_ret
        refine ⟨ret_S Hfin.out.symm, ?_⟩
        first
          | exact (((Chg.refl _ w).alloc _).drew).trans c1
          | exact ((Chg.refl _ w).drew.trans c1).alloc _
set_option maxHeartbeats 1000000 in
set_option maxRecDepth 100000 in
theorem ref_text (l : List UInt8) (hl : l.length ≤ 140737488355328) (w : World) :
    Calls Tryz.prog 65 #[S l] w fun e w' => e = .returned (S (Pk.text l)) ∧ Chg (fun _ => False) w w' := by
  have hf := free_len l.length hl
  have hadd := fun w => add_S (Pk.free l.length) l (by omega) w
  go_enter Tryz.func65, Tryz.ntmps65
  go_wp2_with fail
  refine (ref_free 9 l.length (by omega) (by unfold U64; omega) w).mono ?_
  rintro e w1 ⟨rfl, c1⟩
  go_wp2_with fail
  go_ret
  exact ⟨rfl, c1⟩
theorem ref_freeI (ni : Int) (n : Nat) (h : ni = n) (hn : U64 n) (w : World) :
    Calls Tryz.prog 66 #[.int .u64 ni] w fun e w' => e = .returned (S (Pk.free n)) ∧ Chg (fun _ => False) w w' := by
  subst h; exact ref_free 9 n (by unfold U64 at hn; omega) hn w
set_option maxHeartbeats 1000000 in
set_option maxRecDepth 100000 in
theorem ref_width (n : Int) (w : World) : Calls Tryz.prog 97 #[.int .i64 n] w fun e w' => e = .returned (.int .i64 (wd n)) ∧ w = w' := by
  rcases (show n < 0 ∨ (0 ≤ n ∧ n ≤ 32) ∨ 32 < n by omega) with h0 | ⟨h0, h1⟩ | h0
  · have e := wd_neg h0
    have hd : decide (n < 0) = true := by simpa using h0
    go_enter Tryz.func97, Tryz.ntmps97
    go_wp2_with fail
    go_ret
    exact ⟨ret_int (by omega), rfl⟩
  · have e := wd_mid h0 h1
    have He := Lib.hid e
    have hd : decide (n < 0) = false := by simp; omega
    have hd2 : decide (32 < n) = false := by simp; omega
    clear e
    go_enter Tryz.func97, Tryz.ntmps97
    go_wp2_with fail
    go_ret
    exact ⟨ret_int (by have := He.out; omega), rfl⟩
  · have e := wd_big h0
    have hd : decide (n < 0) = false := by simp; omega
    have hd2 : decide (32 < n) = true := by simp; omega
    go_enter Tryz.func97, Tryz.ntmps97
    go_wp2_with fail
    go_ret
    exact ⟨ret_int (by omega), rfl⟩
set_option maxHeartbeats 1000000 in
set_option maxRecDepth 100000 in
theorem ref_fixed (n m : Nat) (hn : U64 n) (hm : m ≤ 8) (w : World) :
    Calls Tryz.prog 35 #[.int .u64 n, .int .i64 m] w fun e w' => e = .returned (S (Pk.be m n)) ∧ Chg (fun _ => False) w w' := by
  go_enter Tryz.func35, Tryz.ntmps35
  go_wp2_with fail
  go_loopw [0, 5, 6] (fun nv sv iv wr => ∃ (k q : Nat), k ≤ m ∧ iv = .int .i64 k ∧ nv = .int .u64 q ∧ q = n / 256 ^ k ∧ sv = S (Pk.be k n) ∧ Chg (fun _ => False) w wr) (fun _ _ iv _ => m - (intOf iv).toNat)
  case atStart => exact ⟨0, n, by omega, rfl, rfl, by simp, rfl, Chg.refl _ _⟩
  case round =>
    obtain ⟨k, q, hk, rfl, rfl, hq, rfl, hc⟩ := hrel
    by_cases hp : k < m
    · obtain ⟨q2, hq2⟩ : ∃ q2, q2 = q / 256 := ⟨_, rfl⟩
      obtain ⟨z, hz⟩ : ∃ z, z = q % 256 := ⟨_, rfl⟩
      obtain ⟨l1, hl1⟩ : ∃ l, l = [UInt8.ofNat z] := ⟨_, rfl⟩
      have hzb : (z : Int) = (UInt8.ofNat z).toNat := by simp; omega
      have e1 : (q : Int) % 256 = (z : Int) := by omega
      have e2 : (q : Int) / 256 = (q2 : Int) := by omega
      have hbe : Pk.be (k + 1) n = l1 ++ Pk.be k n := by
        have : ((n : Int) / 256 ^ k % 256).toNat = z := by
          have h : (n : Int) / 256 ^ k = ((n / 256 ^ k : Nat) : Int) := by simp
          rw [h, ← hq]; omega
        simp only [Pk.be]
        rw [this, hl1]; rfl
      have hq3 : q2 = n / 256 ^ (k + 1) := by rw [hq2, hq, Nat.pow_succ, Nat.div_div_eq_div_mul]
      have hcv := fun w => conv_new w z _ hzb
      rw [← hl1] at hcv
      have hadd := fun w => add_S l1 (Pk.be k n) (by rw [hl1, Pk.be_length]; simp; omega) w
      have Hh := Lib.hid (And.intro hbe hq3)
      clear hzb hl1 hz hq2 hq hbe hq3
      go_wp2_with fail
      go_roundw
      case rel => exact ⟨k + 1, q2, by omega, by go_num, by go_num, Hh.out.2, by rw [Hh.out.1], hc.alloc _⟩
      case measure => simp [intOf]; omega
    · obtain rfl : k = m := by omega
      go_wp2_with fail
      go_ret
      exact ⟨rfl, hc⟩
set_option maxHeartbeats 1000000 in
set_option maxRecDepth 100000 in
theorem ref_digest (n : Int) (d : List UInt8) (w : World) (hd : d.length = 32) :
    Calls Tryz.prog 68 #[.int .i64 n, .agg (bys d).toArray] w fun e w' => e = .returned (S (d.take (wd n))) ∧ Chg (fun _ => False) w w' := by
  have hw := wd_le n
  obtain ⟨m, hm⟩ : ∃ m, m = wd n := ⟨_, rfl⟩
  rw [← hm] at hw ⊢
  have Hm := Lib.hid hm
  have Hd := Lib.hid hd
  clear hm hd
  go_enter Tryz.func68, Tryz.ntmps68
  go_wp2_with fail
  go_loopw [5, 6] (fun sv iv wr => ∃ k : Nat, k ≤ m ∧ iv = .int .i64 k ∧ sv = S (d.take k) ∧ Blk wr w.heap.size 27 (bys d).toArray ∧ Chg (fun _ => False) w wr) (fun _ iv _ => m - (intOf iv).toNat)
  case atStart => exact ⟨0, by omega, rfl, by simp, Blk.new w _ _, (Chg.refl _ w).alloc _⟩
  case round =>
    obtain ⟨k, hk, rfl, rfl, hb, hc⟩ := hrel
    by_cases hp : k < m
    · obtain ⟨b, hbk, hdr⟩ := drop_at d (show k < d.length by rw [Hd.out]; omega)
      have hcell : wr.cell? ⟨w.heap.size, k, none⟩ = some (.int .u8 b.toNat) := by
        rw [hb.cell]; simp [bys, hbk]
      obtain ⟨l1, hl1⟩ : ∃ l, l = [b] := ⟨_, rfl⟩
      have htk : d.take (k + 1) = d.take k ++ l1 := by rw [List.take_add_one, hbk, hl1]; rfl
      have hcv := fun w => conv_new w b.toNat b rfl
      rw [← hl1] at hcv
      have hadd := fun w => add_S (d.take k) l1 (by rw [hl1, List.length_take]; simp; omega) w
      have Htk := Lib.hid htk
      clear hbk hdr htk hl1
      go_wp2_with fail
      refine (ref_width n wr).mono ?_
      rintro e w' ⟨rfl, rfl⟩
      rw [← Hm.out]
      go_wp2_with fail
      go_roundw
      case rel => exact ⟨k + 1, by omega, by go_num, by rw [Htk.out], hb.alloc _, hc.alloc _⟩
      case measure => simp [intOf]; omega
    · obtain rfl : k = m := by omega
      go_wp2_with fail
      refine (ref_width n wr).mono ?_
      rintro e w' ⟨rfl, rfl⟩
      rw [← Hm.out]
      go_wp2_with fail
      go_ret
      exact ⟨rfl, hc⟩
/-- how many bytes a fixed number of a kind has; 0: it is no such kind -/
def sz (k : Int) : Nat := if k < 0 ∨ 8 < k then 0 else [1, 2, 4, 8, 1, 2, 4, 8, 2].getD k.toNat 0
end Go.Proofs.YthkfcfkkamffpaaGreat
