/-
  Writer.Digest; bytesOf, layByte, layBytes, layFree, layText.
-/
import Derived.Test.YthkfcfkkamffpaaGreatDig
import Derived.Test.YthkfcfkkamffpaaGreatOpen
namespace Go.Proofs.YthkfcfkkamffpaaGreat
open Go.RowKit
set_option linter.unusedVariables false

theorem arr_digest : Tryz.prog.underlying 27 = some (.array (Tryz.prog.arrayLen 27) (Tryz.prog.elem 27)) := by kernel_rfl
theorem len_digest : Tryz.prog.arrayLen 27 = 32 := by kernel_rfl
theorem elem_digest : Tryz.prog.elem 27 = 5 := by kernel_rfl
theorem size_u8 (w : World) : (sizeOf 5).run Tryz.prog w = .ok 1 w := by kernel_rfl
theorem slice_dig (b k : Nat) (hk : k ≤ 32) (w : World) : (Instr.sliceAt 27 (.pointer (some ⟨b, 0, none⟩)) none (some (.int .i64 (k : Int))) none).run Tryz.prog w = .ok (.slice (some ⟨b, 0, none⟩) k 32) w := by
  have h := run_sliceAt_array_h (P := Tryz.prog) w 27 ⟨b, 0, none⟩ arr_digest .i64 (k : Int) (by omega) (by rw [len_digest]; omega)
  rw [elem_digest, len_digest, size_u8] at h
  refine h.trans ?_
  simp [slicedAt, Result.andThen, Addr.add]
theorem singles_flat (l : List UInt8) : (l.map fun b => [b]).flatten = l := by
  induction l with
  | nil => rfl
  | cons b l ih => simp [ih]

set_option maxHeartbeats 1000000 in
set_option maxRecDepth 100000 in
theorem wdigest_calls (g : Nat) (n : Int) (d : List UInt8) (v : Value) (xs : List UInt8) (w : World) (h : IsW w g v xs) (hd : d.length = 32) (hroom : xs.length ≤ 140737488355000) :
    Calls Tryz.prog 181 #[.pointer (some ⟨g, 0, none⟩), .int .i64 n, .agg (bys d).toArray] w fun e w' => e = .returned (.tuple #[]) ∧ Wrote w w' g v (xs ++ d.take (wd n)) := by
  have hw := wd_le n
  have Hd := Lib.hid hd
  clear hd
  have hcv : (convert 49 9 (.slice (some ⟨w.heap.size, 0, none⟩) (wd n) 32)).run Tryz.prog (w.alloc (.cells (bys d).toArray 27)) = .ok (S (d.take (wd n))) (w.alloc (.cells (bys d).toArray 27)) := by
    have hl : (d.take (wd n)).length = wd n := by rw [List.length_take, Hd.out]; omega
    have := run_convert_bytes_back (P := Tryz.prog) (w.alloc (.cells (bys d).toArray 27)) 49 9 5 ⟨w.heap.size, 0, none⟩ 32 (d.take (wd n)) Tryz.underlying49 Tryz.underlying5 Tryz.underlying9 (fun j hj => by
      have hadd : (⟨w.heap.size, 0, none⟩ : Addr).add j = ⟨w.heap.size, j, none⟩ := by unfold Addr.add; split <;> simp_all
      rw [hadd, (Blk.new w _ (bys d).toArray).cell]
      simp [bys]
      have : j < d.length := by rw [Hd.out]; omega
      rw [List.getElem?_eq_getElem this]
      simp)
    rw [hl] at this
    exact this
  have hsl := fun w' => slice_dig w.heap.size (wd n) hw w'
  go_enter Tryz.func181, Tryz.ntmps181
  go_wp2_with (go_at_call 193; refine (into_calls _ _).mono ?_; rintro e w' ⟨rfl, rfl⟩)
  have hl2 : Lst ((w.alloc (.cells (bys d).toArray 27)).alloc (.cells #[S (d.take (wd n))] 9)) (some ⟨w.heap.size + 1, 0, none⟩) 1 (strs [d.take (wd n)]) := by
    have := Lst.new (w.alloc (.cells (bys d).toArray 27)) 9 [S (d.take (wd n))]
    rwa [show (w.alloc (.cells (bys d).toArray 27)).heap.size = w.heap.size + 1 by simp] at this
  refine (raw_calls g _ 1 1 [d.take (wd n)] v xs _ ⟨(h.blk.alloc _).alloc _, (h.own.alloc _).alloc _⟩ hl2 ?_ (by omega) (by simp; omega)).mono ?_
  · rintro - ad ⟨rfl⟩
    refine ⟨fun e => ?_, fun e => ?_⟩
    · have := h.blk.lt; simp at e; omega
    · have := (h.own.lt _ e).2; change w.heap.size + 1 < _ at this; omega
  rintro e w2 ⟨rfl, v2, h2, hc2, hv2⟩
  go_wp2_with fail
  go_end0
  refine ⟨rfl, v2, by simpa using h2, (((Chg.refl _ w).alloc _).alloc _).trans hc2, ?_⟩
  intro k hk
  rcases hv2 k hk with h | h
  · exact .inl h
  · right; simp at h; omega

end Go.Proofs.YthkfcfkkamffpaaGreat
