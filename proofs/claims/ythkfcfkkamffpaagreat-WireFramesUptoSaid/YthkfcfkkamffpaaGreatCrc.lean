/-
  The CRC's functions: sums.feed, sums.CRC; the document's bit, More, CRC.
-/
import Derived.Test.YthkfcfkkamffpaaGreatPure
import Derived.Test.YthkfcfkkamffpaaGreatWt
namespace Go.Proofs.YthkfcfkkamffpaaGreat
open Go.RowKit
set_option linter.unusedVariables false

theorem bits_xor32 {a b : Nat} (ha : Crc.U32 a) (hb : Crc.U32 b) : bits BinOp.xor IntKind.u32 (a : Int) (b : Int) = ((a ^^^ b : Nat) : Int) := by
  unfold Crc.U32 at *
  exact u32_xor_nat a b ha hb
theorem bits_odd {a : Nat} (ha : Crc.U32 a) : bits BinOp.and IntKind.u32 (a : Int) 1 = ((a % 2 : Nat) : Int) := by
  unfold Crc.U32 at *
  refine (u32_and_nat a 1 ha (by omega)).trans ?_
  rw [Nat.and_one_is_mod]
theorem byte_at (l : List UInt8) {k : Nat} (hk : k < l.length) : ∃ b, l[k]? = some b ∧ (⟨l.toArray⟩ : ByteArray)[k]'(by simpa [ByteArray.size] using hk) = b ∧ l.take (k + 1) = l.take k ++ [b] := by
  refine ⟨l[k], List.getElem?_eq_getElem hk, by simp [ByteArray.getElem_eq_getElem_data], ?_⟩
  rw [List.take_succ_eq_append_getElem hk]

set_option maxHeartbeats 1000000 in
set_option maxRecDepth 100000 in
theorem feed_calls (r : Nat) (l : List UInt8) (w : World) (hr : Crc.U32 r) (hl : l.length ≤ 140737488355328) :
    Calls Tryz.prog 73 #[.int .u32 r, S l] w fun e w' => e = .returned (.int .u32 (Crc.feed r l)) ∧ w = w' := by
  go_enter Tryz.func73, Tryz.ntmps73
  go_wp2_with fail
  go_loop [0, 9] (fun rv iv => ∃ k : Nat, k ≤ l.length ∧ iv = .int .i64 k ∧ rv = .int .u32 (Crc.feed r (l.take k))) (fun _ iv => l.length - (intOf iv).toNat)
  case atStart => exact ⟨0, by omega, rfl, rfl⟩
  case round =>
    obtain ⟨k, hk, rfl, rfl⟩ := hrel
    have hu := Crc.u32_feed (l.take k) hr
    by_cases hp : k < l.length
    · obtain ⟨b, hb, hbi, htk⟩ := byte_at l hp
      have hlt := b.toNat_lt
      have hsn : Crc.feed r (l.take (k + 1)) = Crc.steps 8 (Crc.feed r (l.take k) ^^^ b.toNat) := by rw [htk, Crc.feed_snoc]
      have hx := bits_xor32 hu (Crc.u32_byte b)
      have hux := Crc.u32_xor hu (Crc.u32_byte b)
      generalize Crc.feed r (l.take k) ^^^ b.toNat = x at *
      generalize Crc.feed r (l.take k) = y at *
      have Hsn := Lib.hid hsn
      clear hsn htk hb
      go_wp2_with fail
      go_loop [0, 18] (fun rv jv => ∃ j : Nat, j ≤ 8 ∧ jv = .int .i64 j ∧ rv = .int .u32 (Crc.steps j x)) (fun _ jv => 8 - (intOf jv).toNat)
      case atStart => exact ⟨0, by omega, rfl, rfl⟩
      case round =>
        obtain ⟨j, hj, rfl, rfl⟩ := hrel
        have huj := Crc.u32_steps hux j
        by_cases hjp : j < 8
        · have hst : Crc.steps (j + 1) x = Crc.bstep (Crc.steps j x) := rfl
          have ho := bits_odd huj
          generalize Crc.steps j x = z at *
          have Hst := Lib.hid hst
          clear hst
          by_cases hodd : z % 2 = 1
          · have h1 : ((z % 2 : Nat) : Int) = 1 := by omega
            rw [h1] at ho
            have h2 : Crc.U32 (z / 2) := by unfold Crc.U32 at *; omega
            have hx2 := bits_xor32 h2 Crc.u32_poly
            unfold Crc.poly at hx2
            have hbs : Crc.bstep z = z / 2 ^^^ 3988292384 := by unfold Crc.bstep Crc.poly; rw [if_pos hodd]
            rw [← hbs] at hx2
            have hx3 : bits BinOp.xor IntKind.u32 ((z : Int) / 2) 3988292384 = ((Crc.bstep z : Nat) : Int) := hx2
            clear h1 hodd hbs hx2 h2
            go_wp2_with fail
            go_round
            case rel => exact ⟨j + 1, by omega, by go_num, by rw [Hst.out, ← hx3]⟩
            case measure => simp [intOf]; omega
          · have h1 : ((z % 2 : Nat) : Int) = 0 := by omega
            rw [h1] at ho
            have hbs : Crc.bstep z = z / 2 := by unfold Crc.bstep; rw [if_neg hodd]
            have Hbs := Lib.hid hbs
            clear h1 hodd hbs
            go_wp2_with fail
            go_round
            case rel => exact ⟨j + 1, by omega, by go_num, by rw [Hst.out, Hbs.out]; rfl⟩
            case measure => simp [intOf]; omega
        · obtain rfl : j = 8 := by omega
          go_wp2_with fail
          go_round
          case rel => exact ⟨k + 1, by omega, by go_num, by rw [Hsn.out]⟩
          case measure => simp [intOf]; omega
    · obtain rfl : k = l.length := by omega
      go_wp2_with fail
      go_ret
      exact ⟨rfl, rfl⟩

theorem part_le {l : List UInt8} {parts : List (List UInt8)} (h : l ∈ parts) : l.length ≤ parts.flatten.length := by
  induction parts with
  | nil => cases h
  | cons x r ih =>
    simp only [List.flatten_cons, List.length_append]
    rcases List.mem_cons.1 h with rfl | h
    · omega
    · have := ih h; omega
theorem u32_all : Crc.U32 4294967295 := by unfold Crc.U32; omega
theorem xor_ones32 (a : Nat) (h : a < 4294967296) : 4294967295 ^^^ a = 4294967295 - a := by
  have h1 : (BitVec.ofNat 32 a ^^^ BitVec.allOnes 32).toNat = a ^^^ 4294967295 := by
    rw [BitVec.toNat_xor, BitVec.toNat_ofNat, BitVec.toNat_allOnes, Nat.mod_eq_of_lt h]
  rw [Nat.xor_comm, ← h1, BitVec.xor_allOnes, BitVec.toNat_not, BitVec.toNat_ofNat, Nat.mod_eq_of_lt h]
theorem not32 {a : Nat} (ha : Crc.U32 a) : bits BinOp.xor IntKind.u32 IntKind.u32.max (a : Int) = ((4294967295 - a : Nat) : Int) := by
  unfold Crc.U32 at ha
  have e : IntKind.u32.max = 4294967295 := by rfl
  rw [e]
  refine (u32_xor_nat 4294967295 a (by omega) ha).trans ?_
  rw [xor_ones32 a ha]
set_option maxHeartbeats 1000000 in
set_option maxRecDepth 100000 in
theorem crc_calls (A : Option Addr) (n c : Nat) (parts : List (List UInt8)) (w : World) (hl : Lst w A n (strs parts)) (hn : n ≤ 140737488355328) (hlen : parts.flatten.length ≤ 140737488355328) :
    Calls Tryz.prog 47 #[.slice A n c] w fun e w' => e = .returned (.int .u32 (Crc.crc parts.flatten)) ∧ w = w' := by
  have hpl : parts.length = n := by simpa [strs] using hl.1
  have hpl' := Lib.hid hpl
  clear hpl
  go_enter Tryz.func47, Tryz.ntmps47
  go_wp2_with fail
  go_loop [3, 8] (fun rv iv => ∃ k : Nat, k ≤ n ∧ iv = .int .i64 k ∧ rv = .int .u32 (Crc.feed 4294967295 (parts.take k).flatten)) (fun _ iv => n - (intOf iv).toNat)
  case atStart => exact ⟨0, by omega, rfl, rfl⟩
  case round =>
    obtain ⟨k, hk, rfl, rfl⟩ := hrel
    have hu := Crc.u32_feed (parts.take k).flatten u32_all
    by_cases hp : k < n
    · obtain ⟨b, off, u, rfl, hu2, hcell⟩ := hl.at_ hp
      obtain ⟨l, hlk, rfl⟩ : ∃ l, parts[k]? = some l ∧ u = S l := by
        simp only [strs, List.getElem?_map, Option.map_eq_some_iff] at hu2
        obtain ⟨l, h1, h2⟩ := hu2
        exact ⟨l, h1, h2.symm⟩
      have hll : l.length ≤ 140737488355328 := by
        have := part_le (List.mem_of_getElem? hlk)
        omega
      have hsn : Crc.feed 4294967295 (parts.take (k + 1)).flatten = Crc.feed (Crc.feed 4294967295 (parts.take k).flatten) l := by
        rw [← Crc.feed_append, List.take_add_one, hlk]; simp
      have Hsn := Lib.hid hsn
      clear hsn hlk hu2
      generalize Crc.feed 4294967295 (parts.take k).flatten = x at *
      go_wp2_with (go_at_call 73; refine (feed_calls x l _ hu hll).mono ?_; rintro e w' ⟨rfl, rfl⟩)
      go_round
      case rel => exact ⟨k + 1, by omega, by go_num, by rw [Hsn.out]⟩
      case measure => simp [intOf]; omega
    · obtain rfl : k = n := by omega
      have hall : (parts.take k).flatten = parts.flatten := by rw [List.take_of_length_le (by rw [hpl'.out]; omega)]
      rw [hall] at hu ⊢
      have hnot := not32 hu
      have hcrc : Crc.crc parts.flatten = 4294967295 - Crc.feed 4294967295 parts.flatten := rfl
      rw [← hcrc] at hnot
      generalize Crc.feed 4294967295 parts.flatten = x at *
      have Hc := Lib.hid hcrc
      clear hcrc hall
      go_wp2_with fail
      go_ret
      exact ⟨rfl, rfl⟩

theorem rbit_same {r b : Nat} (h : r % 2 = b) : Crc.rbit r b = r / 2 := by unfold Crc.rbit; rw [if_neg (by omega)]
theorem rbit_other {r b : Nat} (h : r % 2 ≠ b) : Crc.rbit r b = r / 2 ^^^ 3988292384 := by unfold Crc.rbit Crc.poly; rw [if_pos h]
set_option maxHeartbeats 1000000 in
set_option maxRecDepth 100000 in
theorem rbit_calls (r b : Nat) (w : World) (hr : Crc.U32 r) :
    Calls Tryz.prog 98 #[.int .u32 r, .int .u32 b] w fun e w' => e = .returned (.int .u32 (Crc.rbit r b)) ∧ w = w' := by
  have ho := bits_odd hr
  have h2 : Crc.U32 (r / 2) := by unfold Crc.U32 at *; omega
  have hx2 := bits_xor32 h2 Crc.u32_poly
  unfold Crc.poly at hx2
  obtain ⟨q, hq⟩ : ∃ q, q = r % 2 := ⟨_, rfl⟩
  rw [← hq] at ho
  by_cases h : r % 2 = b
  · have hne : ((q : Int) != (b : Int)) = false := by rw [bne_eq_false_iff_eq]; omega
    have e := Lib.hid (rbit_same h)
    clear h hq hx2
    go_enter Tryz.func98, Tryz.ntmps98
    go_wp2_with fail
    go_ret
    exact ⟨ret_int (by rw [e.out]; rfl), rfl⟩
  · have hne : ((q : Int) != (b : Int)) = true := by rw [bne_iff_ne]; omega
    have e := Lib.hid (rbit_other h)
    rw [← e.out] at hx2
    have hx3 : bits BinOp.xor IntKind.u32 ((r : Int) / 2) 3988292384 = ((Crc.rbit r b : Nat) : Int) := hx2
    clear h hq hx2
    go_enter Tryz.func98, Tryz.ntmps98
    go_wp2_with fail
    go_ret
    exact ⟨ret_int (by rw [← hx3]), rfl⟩

set_option maxHeartbeats 1000000 in
set_option maxRecDepth 100000 in
theorem rmore_calls (l : List UInt8) (w : World) (hl : l.length ≤ 140737488355328) :
    Calls Tryz.prog 70 #[.int .u32 0, S l] w fun e w' => e = .returned (.int .u32 (Crc.crc l)) ∧ w = w' := by
  have hn0 : bits BinOp.xor IntKind.u32 IntKind.u32.max 0 = ((4294967295 : Nat) : Int) := not32 (a := 0) (by unfold Crc.U32; omega)
  obtain ⟨M, hM⟩ : ∃ M : Nat, M = 4294967295 := ⟨_, rfl⟩
  have hMu : Crc.U32 M := by unfold Crc.U32; omega
  rw [← hM] at hn0
  have HM := Lib.hid hM
  clear hM
  go_enter Tryz.func70, Tryz.ntmps70
  go_wp2_with fail
  go_loop [5, 6, 7] (fun rv iv _ => ∃ k : Nat, k ≤ l.length ∧ iv = .int .i64 k ∧ rv = .int .u32 (Crc.feed M (l.take k))) (fun _ iv _ => l.length - (intOf iv).toNat)
  case atStart => exact ⟨0, by omega, rfl, rfl⟩
  case round =>
    obtain ⟨k, hk, rfl, rfl⟩ := hrel
    have hu := Crc.u32_feed (l.take k) hMu
    by_cases hp : k < l.length
    · obtain ⟨b, hb, hbi, htk⟩ := byte_at l hp
      have hlt := b.toNat_lt
      have hsn : Crc.feed M (l.take (k + 1)) = Crc.rsteps 8 (Crc.feed M (l.take k)) b.toNat := by rw [htk, Crc.feed_snoc, Crc.steps8]
      generalize Crc.feed M (l.take k) = y at *
      have Hsn := Lib.hid hsn
      clear hsn htk hb
      go_wp2_with fail
      go_loop [5, 7] (fun rv jv => ∃ j : Nat, j ≤ 8 ∧ jv = .int .i64 j ∧ rv = .int .u32 (Crc.rsteps j y b.toNat)) (fun _ jv => 8 - (intOf jv).toNat)
      case atStart => exact ⟨0, by omega, rfl, rfl⟩
      case round =>
        obtain ⟨j, hj, rfl, rfl⟩ := hrel
        have huj := Crc.u32_rsteps (c := b.toNat) hu j
        by_cases hjp : j < 8
        · have hst : Crc.rsteps (j + 1) y b.toNat = Crc.rbit (Crc.rsteps j y b.toNat) (b.toNat / 2 ^ j % 2) := rfl
          generalize Crc.rsteps j y b.toNat = z at *
          have hcb : Crc.U32 (b.toNat / 2 ^ j) := by
            have h1 : b.toNat / 2 ^ j ≤ b.toNat := Nat.div_le_self _ _
            unfold Crc.U32; omega
          have hb1 : bits BinOp.and IntKind.u32 ((b.toNat : Int) / 2 ^ j) 1 = ((b.toNat / 2 ^ j % 2 : Nat) : Int) := by
            rw [← bits_odd hcb]; simp
          obtain ⟨c, hc⟩ : ∃ c, c = b.toNat / 2 ^ j % 2 := ⟨_, rfl⟩
          rw [← hc] at hst hb1
          have Hst := Lib.hid hst
          clear hst hcb hc
          go_wp2_with fail
          refine (rbit_calls z c _ huj).mono ?_
          rintro e w' ⟨rfl, rfl⟩
          go_wp2_with fail
          go_round
          case rel => exact ⟨j + 1, by omega, by go_num, by rw [Hst.out]⟩
          case measure => simp [intOf]; omega
        · obtain rfl : j = 8 := by omega
          go_wp2_with fail
          go_round
          case rel => exact ⟨k + 1, by omega, by go_num, by rw [Hsn.out]⟩
          case measure => simp [intOf]; omega
    · obtain rfl : k = l.length := by omega
      have hnot := not32 hu
      go_wp2_with fail
      go_ret
      rw [List.take_length] at hnot
      have := HM.out
      subst this
      exact ⟨ret_int hnot, rfl⟩
set_option maxHeartbeats 1000000 in
set_option maxRecDepth 100000 in
theorem rcrc_calls (l : List UInt8) (w : World) (hl : l.length ≤ 140737488355328) :
    Calls Tryz.prog 38 #[S l] w fun e w' => e = .returned (.int .u32 (Crc.crc l)) ∧ w = w' := by
  go_enter Tryz.func38, Tryz.ntmps38
  go_wp2_with fail
  refine (rmore_calls l w hl).mono ?_
  rintro e w' ⟨rfl, rfl⟩
  go_wp2_with fail
  go_ret
  exact ⟨rfl, rfl⟩
end Go.Proofs.YthkfcfkkamffpaaGreat
