/-
  Layer 3: the document's whole, sorted, one.
-/
import Derived.Test.YtdicelibjpmglaaGreatDoorLk
import Derived.Test.YtdicelibjpmglaaGreatDoorTm
import Derived.OwnWalk
import Derived.Laws.OwnMore
namespace Go.Proofs.YtdicelibjpmglaaGreatDoor
open Go.RowKit
set_option linter.unusedVariables false
set_option linter.unusedSimpArgs false
attribute [local go_sem] run_store_float
open Tp (It)

theorem cvt_byte (w : World) (a : Addr) (x : Int) (b : UInt8) (hx : x = b.toNat) (h : w.cell? a = some (.int .u8 x)) : (convert 51 9 (.slice (some a) 1 1)).run Tryz.prog w = .ok (S [b]) w := by
  have := run_convert_bytes_back (P := Tryz.prog) w 51 9 5 a 1 [b] Tryz.underlying51 Tryz.underlying5 Tryz.underlying9 (fun j hj => by
    have : j = 0 := by simpa using hj
    subst this
    have e : a.add 0 = a := by unfold Addr.add; cases a with | mk b o v => cases v <;> simp
    rw [e, h, hx]; simp)
  exact this
theorem cvt_new (w : World) (x : Int) (b : UInt8) (hx : x = b.toNat) : (convert 51 9 (.slice (some ⟨w.heap.size, 0, none⟩) 1 1)).run Tryz.prog (w.alloc (.cells #[.int .u8 x] 5)) = .ok (S [b]) (w.alloc (.cells #[.int .u8 x] 5)) :=
  cvt_byte _ _ x b hx (by rw [(Blk.new w 5 #[.int .u8 x]).cell]; rfl)
theorem cvt_newd (w : World) (x : Int) (b : UInt8) (hx : x = b.toNat) : (convert 51 9 (.slice (some ⟨w.heap.size, 0, none⟩) 1 1)).run Tryz.prog (w.alloc (.cells #[.int .u8 x] 5)).drew = .ok (S [b]) (w.alloc (.cells #[.int .u8 x] 5)).drew :=
  cvt_byte _ _ x b hx ((Blk.new w 5 #[.int .u8 x]).drew.cell 0)
theorem retS {a b : List UInt8} (h : a = b) : Ending.returned (S a) = .returned (S b) := by rw [h]
theorem addSS (a b : List UInt8) (h : a.length + b.length ≤ 9223372036854775807) (w : World) : (Op.stringOp .add ⟨a.toArray⟩ ⟨b.toArray⟩).run Tryz.prog w = .ok (S (a ++ b)) w := by
  have := run_string_add_sum (P := Tryz.prog) (w := w) (⟨a.toArray⟩ : ByteArray) ⟨b.toArray⟩ (by simpa [ByteArray.size] using h)
  rw [this, ByteArray.mk_append_mk]
theorem bys_rep (n : Nat) : bys (List.replicate n 0) = List.replicate n (.int .u8 0) := by simp [bys]
theorem be_set (i r n z : Nat) (hz : z = n / 256 ^ r % 256) : (bys (List.replicate (i + 1) 0 ++ Pk.be r n)).set i (.int .u8 z) = bys (List.replicate i 0 ++ Pk.be (r + 1) n) := by
  have e : Pk.be (r + 1) (n : Int) = UInt8.ofNat z :: Pk.be r n := by rw [Pk.be, byte_shift, ← hz]
  have hz2 : (UInt8.ofNat z).toNat = z := by simp; omega
  rw [e, List.replicate_succ', List.append_assoc, bys_append, bys_append, List.set_append_right _ _ (by simp [bys])]
  simp [bys, hz2]

set_option maxHeartbeats 1000000 in
set_option maxRecDepth 100000 in
theorem rwhole_calls (n m : Nat) (hn : U64 n) (hm : m ≤ 8) (w : World) :
    Calls Tryz.prog 112 #[.int .u64 n, .int .i64 m] w fun e w' => e = .returned (S (Pk.be m n)) ∧ Chg (fun _ => False) w w' := by
  obtain ⟨i0, hi, hz0, hz1, hz2⟩ := info_parts info_b8
  have hw : IntKind.i64.wrap ((m : Int) - 1) = (m : Int) - 1 := IntWalk.i64_in _ (by omega)
  go_enter Tryz.func112, Tryz.ntmps112
  go_wp2_with (at_make; refine wpList_make_full _ rfl _ _ 51 rfl w.heap.size 5 i0 _ 1 Tryz.underlying51 hi hz0 hz1 .i64 .i64 (m : Int) (m : Int) m rfl rfl rfl rfl (by rw [hz2]; omega) (by unfold maxLen; omega) (Nat.le_refl _) ?_; intro w1 hown1 hgr1)
  have hown2 : w1.ownsRow w.heap.size 5 1 (.slice (some ⟨w.heap.size, 0, none⟩) m m) m (bys (List.replicate m 0 ++ Pk.be 0 n)) := by
    have e : (madeCells (Value.int .u8 0).cells (m * 1)).toList = bys (List.replicate m 0 ++ Pk.be 0 n) := by
      rw [show (Value.int .u8 0).cells = #[.int .u8 0] from rfl, toList_madeCells_one, Pk.be, List.append_nil, bys_rep, Nat.mul_one]
    rw [← e]; exact hown1
  have hc1 : Chg (fun _ => False) w w1 := (Chg.refl _ w).grown hgr1 (fun k hk => by cases hk)
  have Hown2 := Lib.hid hown2
  have Hc1 := Lib.hid hc1
  have hgs : w.heap.size < w1.heap.size := (hown1.lt w.heap.size rfl).2
  clear hown1 hgr1 hown2 hc1
  go_loopw [0, 6] (fun nv iv wr => ∃ (j r q : Nat), j + r = m ∧ nv = .int .u64 q ∧ iv = .int .i64 ((j : Int) - 1) ∧ q = n / 256 ^ r ∧ wr.ownsRow w.heap.size 5 1 (.slice (some ⟨w.heap.size, 0, none⟩) m m) m (bys (List.replicate j 0 ++ Pk.be r n)) ∧ Chg (fun _ => False) w wr) (fun _ iv _ => (intOf iv + 1).toNat)
  case atStart => exact ⟨m, 0, n, by omega, rfl, by go_num, by simp, Hown2.out, Hc1.out⟩
  case round =>
    obtain ⟨j, r, q, hjr, rfl, rfl, hq, hown, hc⟩ := hrel
    rcases Nat.eq_zero_or_pos j with h0 | h0
    · subst h0
      obtain rfl : r = m := by omega
      have hl : (Pk.be r (n : Int)).length = r := Pk.be_length _ _
      have hcv := run_convert_own (P := Tryz.prog) (l := Pk.be r n) wr 51 9 5 Tryz.underlying51 Tryz.underlying5 Tryz.underlying9 (base := w.heap.size) (v := .slice (some ⟨w.heap.size, 0, none⟩) r r) (by rw [hl]; simpa using hown)
      have Hc := Lib.hid hc
      clear hown hc hq hl
      go_wp2_with fail
      go_ret
      exact ⟨rfl, Hc.out⟩
    · obtain ⟨i, rfl⟩ : ∃ i, j = i + 1 := ⟨j - 1, by omega⟩
      obtain ⟨z, hz⟩ : ∃ z, z = q % 256 := ⟨_, rfl⟩
      obtain ⟨q2, hq2⟩ : ∃ q2, q2 = q / 256 := ⟨_, rfl⟩
      have e1 : (q : Int) % 256 = (z : Int) := by omega
      have e2 : (q : Int) / 256 = (q2 : Int) := by omega
      have hzz : z < 256 := by omega
      have e3 : IntKind.u64.wrap (q2 : Int) = (q2 : Int) := by
        have h1 : q ≤ n := by rw [hq]; exact Nat.div_le_self _ _
        unfold U64 at hn
        rw [IntKind.wrap_u64]; omega
      have hst := hown.stored i (.int .u8 z)
      rw [be_set i r n z (by rw [hz, hq])] at hst
      have f0 := hown.frozenAt i
      have c0 := hown.cellAt i (by omega)
      have hlt : i < (bys (List.replicate (i + 1) 0 ++ Pk.be r n)).length := by rw [bys_length, List.length_append]; simp; omega
      obtain ⟨cv, hcv⟩ : ∃ cv, (bys (List.replicate (i + 1) 0 ++ Pk.be r n))[i]? = some cv := ⟨_, List.getElem?_eq_getElem hlt⟩
      rw [hcv] at c0
      have him : i < m := by omega
      have Hst := Lib.hid hst.1
      have Hc := Lib.hid hc
      have Hq := Lib.hid (show q2 = n / 256 ^ (r + 1) by rw [hq2, hq, Nat.pow_succ, Nat.div_div_eq_div_mul])
      have Hjr := Lib.hid hjr
      rw [show (((i + 1 : Nat) : Int) - 1) = (i : Int) by omega]
      clear hst hc hq hz hq2 hown hw hlt hjr hcv
      go_wp2_with fail
      go_roundw
      case rel =>
        have := Hjr.out
        exact ⟨i, r + 1, q2, by omega, rfl, rfl, Hq.out, Hst.out, (Hc.out).setCell (.inr (Nat.le_refl _)) _⟩
      case measure => simp [intOf]
theorem rwhole_I (ni mi : Int) (n m : Nat) (h1 : ni = n) (h2 : mi = m) (hn : U64 n) (hm : m ≤ 8) (w : World) :
    Calls Tryz.prog 112 #[.int .u64 ni, .int .i64 mi] w fun e w' => e = .returned (S (Pk.be m n)) ∧ Chg (fun _ => False) w w' := by
  subst h1 h2; exact rwhole_calls n m hn hm w

set_option maxHeartbeats 1000000 in
set_option maxRecDepth 100000 in
theorem rsorted_calls (f : Nat) (hf : U64 f) (w : World) : Calls Tryz.prog 113 #[.float .f64 f] w fun e w' => e = .returned (.int .u64 (Tp.key f)) ∧ w' = w := by
  have HB := Lib.hid (rbits_calls f hf w)
  have hfb : Tp.fbits f < 18446744073709551616 := by unfold Tp.fbits Tp.theNaN; unfold U64 at hf; split <;> omega
  obtain ⟨b, hb⟩ : ∃ b, Tp.fbits f = b := ⟨_, rfl⟩
  have hk : Tp.key f = if 9223372036854775808 ≤ b then 18446744073709551615 - b else b + 9223372036854775808 := by unfold Tp.key; rw [hb]
  rw [hb] at HB hfb
  rw [hk]
  clear hf hb hk
  rcases Nat.lt_or_ge b 9223372036854775808 with h | h
  · have e1 : decide (9223372036854775808 ≤ (b : Int)) = false := by rw [decide_eq_false_iff_not]; omega
    have e2 : IntKind.u64.wrap ((b : Int) + 9223372036854775808) = ((b + 9223372036854775808 : Nat) : Int) := by rw [IntKind.wrap_u64]; omega
    rw [if_neg (by omega)]
    obtain ⟨c, hc⟩ : ∃ c, b + 9223372036854775808 = c := ⟨_, rfl⟩
    rw [hc] at e2 ⊢
    clear h hfb hc
    go_enter Tryz.func113, Tryz.ntmps113
    go_wp2_with fail
    refine HB.out.mono ?_
    rintro e w' ⟨rfl, rfl⟩
    go_wp2_with fail
    go_ret
    exact ⟨rfl, rfl⟩
  · have e1 : decide (9223372036854775808 ≤ (b : Int)) = true := by rw [decide_eq_true_iff]; omega
    have e2 : bits BinOp.xor IntKind.u64 IntKind.u64.max (b : Int) = ((18446744073709551615 - b : Nat) : Int) := by
      have h := u64_xor 18446744073709551615 b (by omega) hfb
      rw [Lib.xor_ones64 b hfb] at h
      exact h
    rw [if_pos h]
    obtain ⟨c, hc⟩ : ∃ c, 18446744073709551615 - b = c := ⟨_, rfl⟩
    rw [hc] at e2 ⊢
    clear h hfb hc
    go_enter Tryz.func113, Tryz.ntmps113
    go_wp2_with fail
    refine HB.out.mono ?_
    rintro e w' ⟨rfl, rfl⟩
    go_wp2_with fail
    go_ret
    exact ⟨rfl, rfl⟩
end Go.Proofs.YtdicelibjpmglaaGreatDoor
