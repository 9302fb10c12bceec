/-
  Writer.Digest; bytesOf, layByte, layBytes, layFree, layText.
-/
import Derived.Test.YtkajbpdhglaieaaDig
import Derived.Test.YtkajbpdhglaieaaOpen
namespace Go.Proofs.Ytkajbpdhglaieaa
open Go.RowKit
set_option linter.unusedVariables false

theorem arr_digest : Try.prog.underlying 65 = some (.array (Try.prog.arrayLen 65) (Try.prog.elem 65)) := by kernel_rfl
theorem len_digest : Try.prog.arrayLen 65 = 32 := by kernel_rfl
theorem elem_digest : Try.prog.elem 65 = 5 := by kernel_rfl
theorem size_u8 (w : World) : (sizeOf 5).run Try.prog w = .ok 1 w := by kernel_rfl
theorem slice_dig (b k : Nat) (hk : k ≤ 32) (w : World) : (Instr.sliceAt 65 (.pointer (some ⟨b, 0, none⟩)) none (some (.int .i64 (k : Int))) none).run Try.prog w = .ok (.slice (some ⟨b, 0, none⟩) k 32) w := by
  have h := run_sliceAt_array_h (P := Try.prog) w 65 ⟨b, 0, none⟩ arr_digest .i64 (k : Int) (by omega) (by rw [len_digest]; omega)
  rw [elem_digest, len_digest, size_u8] at h
  refine h.trans ?_
  simp [slicedAt, Result.andThen, Addr.add]
theorem singles_flat (l : List UInt8) : (l.map fun b => [b]).flatten = l := by
  induction l with
  | nil => rfl
  | cons b l ih => simp [ih]

set_option maxHeartbeats 1000000 in
set_option maxRecDepth 100000 in
theorem wdigest_calls (g : Nat) (n : Int) (d : List UInt8) (v : Value) (xs : List UInt8) (w : World) (h : IsW w g v xs) (hd : d.length = 32) (hroom : xs.length ≤ 140737488355000) :
    Calls Try.prog 56 #[.pointer (some ⟨g, 0, none⟩), .int .i64 n, .agg (bys d).toArray] w fun e w' => e = .returned (.tuple #[]) ∧ Wrote w w' g v (xs ++ d.take (wd n)) := by
  have hw := wd_le n
  have Hd := Lib.hid hd
  clear hd
  have hcv : (convert 76 9 (.slice (some ⟨w.heap.size, 0, none⟩) (wd n) 32)).run Try.prog (w.alloc (.cells (bys d).toArray 65)) = .ok (S (d.take (wd n))) (w.alloc (.cells (bys d).toArray 65)) := by
    have hl : (d.take (wd n)).length = wd n := by rw [List.length_take, Hd.out]; omega
    have := run_convert_bytes_back (P := Try.prog) (w.alloc (.cells (bys d).toArray 65)) 76 9 5 ⟨w.heap.size, 0, none⟩ 32 (d.take (wd n)) Try.underlying76 Try.underlying5 Try.underlying9 (fun j hj => by
      have hadd : (⟨w.heap.size, 0, none⟩ : Addr).add j = ⟨w.heap.size, j, none⟩ := by unfold Addr.add; split <;> simp_all
      rw [hadd, (Blk.new w _ (bys d).toArray).cell]
      simp [bys]
      have : j < d.length := by rw [Hd.out]; omega
      rw [List.getElem?_eq_getElem this]
      simp)
    rw [hl] at this
    exact this
  have hsl := fun w' => slice_dig w.heap.size (wd n) hw w'
  go_enter Try.func56, Try.ntmps56
  go_wp2_with (go_at_call 80; refine (into_calls _ _).mono ?_; rintro e w' ⟨rfl, rfl⟩)
  have hl2 : Lst ((w.alloc (.cells (bys d).toArray 65)).alloc (.cells #[S (d.take (wd n))] 9)) (some ⟨w.heap.size + 1, 0, none⟩) 1 (strs [d.take (wd n)]) := by
    have := Lst.new (w.alloc (.cells (bys d).toArray 65)) 9 [S (d.take (wd n))]
    rwa [show (w.alloc (.cells (bys d).toArray 65)).heap.size = w.heap.size + 1 by simp] at this
  refine (raw_calls g _ 1 1 [d.take (wd n)] v xs _ ⟨(h.blk.alloc _).alloc _, (h.own.alloc _).alloc _⟩ hl2 ?_ (by omega) (by simp; omega)).mono ?_
  · rintro - ad ⟨rfl⟩
    refine ⟨fun e => ?_, fun e => ?_⟩
    · have := h.blk.lt; simp at e; omega
    · have := (h.own.lt _ e).2; change w.heap.size + 1 < _ at this; omega
  rintro e w2 ⟨rfl, v2, h2, hc2, hv2⟩
  go_wp2_with fail
  go_end0
  refine ⟨rfl, v2, by simpa using h2, (((Chg.refl _ w).alloc _).alloc _).trans hc2, ?_⟩
  intro k hk
  rcases hv2 k hk with h | h
  · exact .inl h
  · right; simp at h; omega

set_option maxHeartbeats 1000000 in
set_option maxRecDepth 100000 in
theorem layFree_calls (g n : Nat) (v : Value) (xs : List UInt8) (w : World) (h : IsW w g v xs) (hn : U64 n) (hroom : xs.length + (Pk.free n).length ≤ 140737488355328) :
    Calls Try.prog 58 #[.pointer (some ⟨g, 0, none⟩), .int .u64 n] w fun e w' => e = .returned (.tuple #[]) ∧ Wrote w w' g v (xs ++ Pk.free n) := by
  go_enter Try.func58, Try.ntmps58
  go_wp2_with fail
  refine (free_calls g n v xs w h hn hroom).mono ?_
  rintro e w' ⟨rfl, hw⟩
  go_wp2_with fail
  go_end0
  exact ⟨rfl, hw⟩
set_option maxHeartbeats 1000000 in
set_option maxRecDepth 100000 in
theorem layText_calls (g : Nat) (l : List UInt8) (v : Value) (xs : List UInt8) (w : World) (h : IsW w g v xs) (hroom : xs.length + (Pk.free l.length).length + l.length ≤ 140737488355328) :
    Calls Try.prog 59 #[.pointer (some ⟨g, 0, none⟩), S l] w fun e w' => e = .returned (.tuple #[]) ∧ Wrote w w' g v (xs ++ (Pk.free l.length ++ l)) := by
  go_enter Try.func59, Try.ntmps59
  go_wp2_with fail
  refine (text_calls g l v xs w h hroom).mono ?_
  rintro e w' ⟨rfl, hw⟩
  go_wp2_with fail
  go_end0
  exact ⟨rfl, hw⟩
set_option maxHeartbeats 1000000 in
set_option maxRecDepth 100000 in
theorem layByte_calls (g : Nat) (b : UInt8) (v : Value) (xs : List UInt8) (w : World) (h : IsW w g v xs) (hroom : xs.length + 1 ≤ 140737488355328) :
    Calls Try.prog 100 #[.pointer (some ⟨g, 0, none⟩), .int .u8 b.toNat] w fun e w' => e = .returned (.tuple #[]) ∧ Wrote w w' g v (xs ++ [b]) := by
  have hb := b.toNat_lt
  go_enter Try.func100, Try.ntmps100
  go_wp2_with fail
  refine (put_uint8 g (b.toNat : Int) v xs w h hroom (Lib.hid (by omega))).mono ?_
  rintro e w' ⟨rfl, hw⟩
  go_wp2_with fail
  go_end0
  refine ⟨rfl, ?_⟩
  have e : Pk.be 1 (b.toNat : Int) = [b] := by
    simp only [Pk.be, Int.pow_zero, Int.ediv_one]
    have : ((b.toNat : Int) % 256).toNat = b.toNat := by omega
    rw [this]
    simp
  rwa [e] at hw

set_option maxHeartbeats 1000000 in
set_option maxRecDepth 100000 in
theorem bytesOf_calls (l : List UInt8) (w : World) (hl : l.length ≤ 4398046511104) :
    Calls Try.prog 99 #[S l] w fun e w' => ∃ v, e = .returned v ∧ w'.ownsRow w.heap.size 5 1 v l.length (bys l) ∧ Chg (fun _ => False) w w' := by
  obtain ⟨i0, hi, hz0, hz1, hz2⟩ := info_parts info_u8
  go_enter Try.func99, Try.ntmps99
  go_wp2_with fail
  go_loopw [3, 4] (fun lv iv wr => ∃ k : Nat, k ≤ l.length ∧ iv = .int .i64 k ∧ wr.ownsRow w.heap.size 5 1 lv k (bys (l.take k)) ∧ Chg (fun _ => False) w wr) (fun _ iv _ => l.length - (intOf iv).toNat)
  case atStart => exact ⟨0, by omega, rfl, World.ownsRow_nil _ _ _ _, Chg.refl _ _⟩
  case round =>
    obtain ⟨k, hk, rfl, hown, hc⟩ := hrel
    by_cases hend : k < l.length
    · obtain ⟨b, hb, hd⟩ := drop_at l hend
      have hbi : (⟨l.toArray⟩ : ByteArray)[k]'(by simpa [ByteArray.size] using hend) = b := by
        have : l[k] = b := by rw [List.getElem?_eq_getElem hend] at hb; injection hb
        simpa [ByteArray.getElem_eq_getElem_data] using this
      have Hb := Lib.hid hb
      clear hb hd
      go_wp2_with (at_builtin; refine wpList_append_any _ rfl (.tmp 11) (.tmp 15) _ rfl w.heap.size 5 i0 _ 1 1 Try.underlying76 hi hz0 hz1 hz2 rfl (by omega) _ k (bys (l.take k)) rfl (hown.alloc _) (wr.heap.size + 1) (some ⟨wr.heap.size, 0, none⟩) 1 1 [.int .u8 b.toNat] rfl (Reads.one _ _ _ _ rfl) (by simp [Value.oneCell']) (by unfold maxLen; omega) (by omega) (by have := hc.size; simp; omega) ?_; intro v3 w3 hown3 hgr hat)
      go_roundw
      case rel =>
        refine ⟨k + 1, by omega, by go_num, ?_, (hc.alloc _).grown hgr fun b hb => .inr (hown.lt b hb).1⟩
        rw [List.take_add_one, Hb.out, bys_append]
        exact hown3
      case measure => simp [intOf]; omega
    · obtain rfl : k = l.length := by omega
      go_wp2_with fail
      go_ret
      rw [List.take_of_length_le (Nat.le_refl _)] at hown
      exact ⟨_, rfl, hown, hc⟩

set_option maxHeartbeats 1000000 in
set_option maxRecDepth 100000 in
theorem layBytes_calls (g : Nat) (l : List UInt8) (v : Value) (xs : List UInt8) (w : World) (h : IsW w g v xs) (hl : l.length ≤ 4398046511104) (hroom : xs.length + (Pk.free l.length).length + l.length ≤ 140737488355328) :
    Calls Try.prog 60 #[.pointer (some ⟨g, 0, none⟩), S l] w fun e w' => e = .returned (.tuple #[]) ∧ Wrote w w' g v (xs ++ (Pk.free l.length ++ l)) := by
  go_enter Try.func60, Try.ntmps60
  go_wp2_with fail
  refine (bytesOf_calls l w hl).mono ?_
  rintro e w1 ⟨v1, rfl, hown, hc⟩
  obtain ⟨ao, cp, rfl⟩ := own_form hown
  have h1 : IsW w1 g v xs := ⟨h.blk.chg hc (fun h => h), own_chg h.own hc (fun _ _ h => h)⟩
  go_wp2_with fail
  refine (each_uint8 g 100 ao l.length cp (bys l) (l.map fun b => [b]) v xs w1 h1 (Lst.of_own hown) (by simp) ?_ (by omega) (by rw [singles_flat]; omega) (fun _ _ => by kernel_rfl) ?_).mono ?_
  · intro hn0 ad ha
    subst ha
    have h2 := (hown.lt ad.block rfl).1
    refine ⟨?_, fun e => ?_⟩
    · have := h.blk.lt; omega
    · have := (h.own.lt _ e).2; omega
  · intro i u b hu hb v xs w h hr
    simp only [bys, List.getElem?_map, Option.map_eq_some_iff] at hu hb
    obtain ⟨x, hx, rfl⟩ := hu
    obtain ⟨y, hy, rfl⟩ := hb
    rw [hx] at hy
    injection hy with hy
    subst hy
    exact layByte_calls g x v xs w h (by simpa using hr)
  rintro e w2 ⟨rfl, v2, h2, hc2, hv2⟩
  go_wp2_with fail
  go_end0
  refine ⟨rfl, v2, ?_, hc.mono (fun _ _ h => h.elim) |>.trans hc2, ?_⟩
  · rwa [singles_flat] at h2
  · intro k hk
    rcases hv2 k hk with h | h
    · exact .inl h
    · right; have := hc.size; omega
end Go.Proofs.Ytkajbpdhglaieaa
