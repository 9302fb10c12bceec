/-
  pack.Reader.Digest: what it reads.
-/
import Derived.Test.YthkfcfkkamffpaaGreatRend
import Derived.Test.YthkfcfkkamffpaaGreatLay
import Derived.Lib.BufferWrite
import Derived.Deep.RegionLaw
namespace Go.Proofs.YthkfcfkkamffpaaGreat
open Go.RowKit
set_option linter.unusedVariables false

theorem step_copy_S {P : Program} {w : World} {ops : Array Oper} {o : Oper} {a : Act} {K : Act → World → Prop} {Q : Exit → Act → World → Prop} {E : Prop} (hgd : o.guard = none) (d s : Operand) (dT sT : TypeId)
    (ho : o.op = Op.call { callee := Callee.builtin Builtin.copy, args := #[d, s], argTypes := #[dT, sT] }) (elem : TypeId) (hu : P.underlying dT = some (.slice elem)) (hsz : (P.info? elem).map (·.size) = some 1)
    (g dLen dCap : Nat) (l : List UInt8) (hd : a.eval d = .slice (some ⟨g, 0, none⟩) dLen dCap) (hs : a.eval s = S l)
    (cur : Array Value) (t : TypeId) (hg : w.heap[g]? = some (.cells cur t (0, 0))) (hle : l.length ≤ dLen) (hfit : l.length ≤ cur.size)
    (hK : K (a.put o.dst (goInt l.length)) (w.setRow g (bys l ++ cur.toList.drop l.length).toArray)) :
    if Region.wanted o (yielded ops a.tmps) = true then Oper.wp P o a w K Q else E := by
  have hw : Region.wanted o (yielded ops a.tmps) = true := by simp [Region.wanted, hgd]
  rw [if_pos hw]
  have hrun := Lib.run_copy_row_string (P := P) w dT sT o.type elem g 0 dLen dCap ⟨l.toArray⟩ cur t hu hsz hg (by simpa [ByteArray.size] using hle) (by simpa [ByteArray.size] using hfit)
  have e1 : (⟨l.toArray⟩ : ByteArray).size = l.length := by simp [ByteArray.size]
  have e2 : Lib.byteCells l = bys l := rfl
  rw [e1] at hrun
  simp only [List.take_zero, List.nil_append, Nat.zero_add] at hrun
  rw [e2] at hrun
  unfold Oper.wp
  simp [execOp, ho, resolve, invoke, builtin, hd, hs]
  rw [hrun]
  simp [Result.andThen]
  exact hK
theorem slice_full (b : Nat) (w : World) : (Instr.sliceAt 27 (.pointer (some ⟨b, 0, none⟩)) none none none).run Tryz.prog w = .ok (.slice (some ⟨b, 0, none⟩) 32 32) w := by
  have h := run_sliceAt_array_all (P := Tryz.prog) w 27 ⟨b, 0, none⟩ arr_digest
  rw [elem_digest, len_digest, size_u8] at h
  refine h.trans ?_
  simp [slicedAt, Result.andThen, Addr.add]
theorem dig_cells (l : List UInt8) (h : l.length ≤ 32) : (bys l ++ (dgc [] 0).toList.drop l.length).toArray = (bys (dig l)).toArray := by
  have e : (dgc [] 0).toList = List.replicate 32 (Value.int .u8 0) := rfl
  have e2 : ∀ k : Nat, bys (List.replicate k 0) = List.replicate k (Value.int .u8 0) := fun k => by unfold bys; rw [List.map_replicate]; rfl
  unfold dig
  rw [e, List.drop_replicate, List.take_of_length_le (i := 32) h, bys_append, e2]
theorem rraw_len (r : Pk.Rd) (n : Nat) : (r.raw n).1.length ≤ n := by
  unfold Pk.Rd.raw
  split
  · simp
  · split <;> simp; omega

set_option maxHeartbeats 2000000 in
set_option maxRecDepth 100000 in
theorem rdigest_calls (g : Nat) (n : Int) (r : Pk.Rd) (w : World) (h : IsR w g r) :
    Calls Tryz.prog 182 #[.pointer (some ⟨g, 0, none⟩), .int .i64 n] w fun e w' => e = .returned (.agg (bys (dig (r.raw (wd n)).1)).toArray) ∧ Red w w' g (r.raw (wd n)).2 := by
  have hsl := fun w' => slice_full (w.heap.size + 1) w'
  have hlen : (r.raw (wd n)).1.length ≤ 32 := Nat.le_trans (rraw_len r (wd n)) (wd_le n)
  have hg := h.blk.lt
  have hz0 : Blk ((w.alloc (.cells (dgc [] 0) 27)).alloc (.cells (dgc [] 0) 27)) w.heap.size 27 (dgc [] 0) := (Blk.new w _ (dgc [] 0)).alloc _
  have hz1 : Blk ((w.alloc (.cells (dgc [] 0) 27)).alloc (.cells (dgc [] 0) 27)) (w.heap.size + 1) 27 (dgc [] 0) := by
    have := Blk.new (w.alloc (.cells (dgc [] 0) 27)) 27 (dgc [] 0)
    have e : (w.alloc (.cells (dgc [] 0) 27)).heap.size = w.heap.size + 1 := by simp
    rw [e] at this
    exact this
  have cz := ((Chg.refl (fun k => k = g) w).alloc (.cells (dgc [] 0) 27)).alloc (.cells (dgc [] 0) 27)
  have hzr := (h.alloc (.cells (dgc [] 0) 27)).alloc (.cells (dgc [] 0) 27)
  go_enter Tryz.func182, Tryz.ntmps182
  go_wp2_with fail
  go_region_law (first
    | (refine step_copy_S rfl (.tmp 6) (.tmp 10) 49 9 rfl 5 Tryz.underlying49 ?_ (w.heap.size + 1) 32 32 (r.raw (wd n)).1 rfl rfl (dgc [] 0) 27 ?_ ?_ ?_ ?_; exact (by kernel_rfl); assumption; exact hlen; exact hlen)
    | (go_simp; go_at_call 193; refine (into_calls _ _).mono ?_; rintro e w' ⟨rfl, rfl⟩)
    | (go_simp; go_at_call 180; refine (rraw_calls g _ r _ ?_).mono ?_; exact hzr.drewN 1; rintro e w1 ⟨rfl, hr⟩; have hb1 : w1.heap[w.heap.size + 1]? = _ := (hz1.drew.chg hr.2 (by omega)); have hb0 := (hz0.drew.chg hr.2 (by omega))))
  all_goals
    rw [dig_cells _ hlen]
    have hc0 : Blk (w1.setRow (w.heap.size + 1) (bys (dig (r.raw (wd n)).1)).toArray) w.heap.size 27 (dgc [] 0) := Blk.setRow_far hb0 (by omega) _
    have hc1 : Blk (w1.setRow (w.heap.size + 1) (bys (dig (r.raw (wd n)).1)).toArray) (w.heap.size + 1) 27 (bys (dig (r.raw (wd n)).1)).toArray := Blk.setRow hb1 _
    have hcc := cz.drew.trans hr.2
    have hir := hr.1
    have hs1 := hcc.setRow (g := w.heap.size + 1) (.inr (by omega)) (bys (dig (r.raw (wd n)).1)).toArray
    have hir2 : IsR (w1.setRow (w.heap.size + 1) (bys (dig (r.raw (wd n)).1)).toArray) g (r.raw (wd n)).2 := ⟨hir.blk.setRow_far (by omega) _, hir.le, hir.len⟩
    have hsz : (bys (dig (r.raw (wd n)).1)).toArray.size = 32 := by simp [bys, dig_length]
    have hone : (bys (dig (r.raw (wd n)).1)).toArray.all (·.oneCell') = true := by
      rw [Array.all_eq_true_iff_forall_mem]
      intro v hv
      exact bys_one _ v (by simpa using hv)
    generalize w1.setRow (w.heap.size + 1) (bys (dig (r.raw (wd n)).1)).toArray = w2 at *
    generalize hcs : (bys (dig (r.raw (wd n)).1)).toArray = cs at *
    have Hcs := Lib.hid hcs
    clear hcs
    have Hsz := Lib.hid hsz
    clear hsz hlen
    go_wp2_with (first | (refine wpList_load_row rfl 27 (.tmp 5) rfl (w.heap.size + 1) rfl 27 cs (0, 0) _ hc1 Tryz.underlying27 rfl (by rw [Hsz.out]; exact info_digest) ?_) | (refine wpList_store_row rfl 27 (.tmp 4) (.tmp 12) rfl w.heap.size cs rfl rfl 27 (dgc [] 0) hc0 (by rw [Hsz.out]; exact info_digest) (by rw [Hsz.out]; rfl) hone ?_))
    refine bodyPost_ret (results_cell_row rfl _ _ w.heap.size 27 cs (0, 0) _ rfl (hc0.setRow _) Tryz.underlying27 rfl (by rw [Hsz.out]; exact info_digest)) rfl ?_
    exact ⟨by rw [Hcs.out], ⟨hir2.blk.setRow_far (by omega) _, hir2.le, hir2.len⟩, hs1.setRow (.inr (Nat.le_refl _)) _⟩
end Go.Proofs.YthkfcfkkamffpaaGreat
