/-
  Layer 6: sums.wide, Cut, Fits; the program's Check of a record.
-/
import Derived.Test.YtlhdbkbgedlmnaaDoorMchk
namespace Go.Proofs.YtlhdbkbgedlmnaaDoor
open Go.RowKit
set_option linter.unusedVariables false
attribute [local go_sem ↓] loadDig_eq

set_option maxHeartbeats 1000000 in
set_option maxRecDepth 100000 in
theorem wide_calls (n : Int) (w : World) (h1 : 1 ≤ n) (h2 : n ≤ 32) : Calls Tryd.prog 58 #[.int .i64 n] w fun e w' => e = .returned (.bool true) ∧ w = w' := by
  go_enter Tryd.func58, Tryd.ntmps58
  go_wp2_with fail
  go_ret
  exact ⟨rfl, rfl⟩
/-- the first bytes of a digest, then bytes 0 -/
def cutd (n : Nat) (d : List UInt8) : List UInt8 := d.take n ++ List.replicate (32 - n) 0
theorem cutd_length (n : Nat) (d : List UInt8) (h : d.length = 32) (hn : n ≤ 32) : (cutd n d).length = 32 := by simp [cutd, h]; omega
theorem cutd_iff (n : Nat) (d : List UInt8) (h : d.length = 32) (hn : n ≤ 32) : (cutd n d == d) = Mt.tailZ (n : Int) d := by
  unfold Mt.tailZ
  rw [Bool.eq_iff_iff, beq_iff_eq, decide_eq_true_iff]
  have e : (n : Int).toNat = n := by simp
  rw [e]
  constructor
  · intro hc
    have h2 := congrArg (List.drop n) hc
    rw [← h2]
    unfold cutd
    rw [List.drop_append_of_le_length (by simp; omega), List.drop_of_length_le (by simp; omega)]
    simp
  · intro hc
    unfold cutd
    rw [← hc, List.take_append_drop]
theorem slice_upto (b k : Nat) (hk : k ≤ 32) (w : World) : (Instr.sliceAt 27 (.pointer (some ⟨b, 0, none⟩)) none (some (.int .i64 (k : Int))) none).run Tryd.prog w = .ok (.slice (some ⟨b, 0, none⟩) k 32) w := slice_dig b k hk w

theorem cut_cells (n : Nat) (d : List UInt8) (h : d.length = 32) (hn : n ≤ 32) : (bys (d.take n) ++ (dgc [] 0).toList.drop (bys (d.take n)).length).toArray = (bys (cutd n d)).toArray := by
  have e : (dgc [] 0).toList = List.replicate 32 (Value.int .u8 0) := rfl
  have e2 : ∀ k : Nat, bys (List.replicate k 0) = List.replicate k (Value.int .u8 0) := fun k => by unfold bys; rw [List.map_replicate]; rfl
  unfold cutd
  have hl : (bys (d.take n)).length = n := by rw [bys_length, List.length_take]; omega
  rw [e, hl, List.drop_replicate, bys_append, e2]
set_option maxHeartbeats 1000000 in
set_option maxRecDepth 100000 in
theorem cut_calls (n : Nat) (d : List UInt8) (w : World) (h1 : 1 ≤ n) (h2 : n ≤ 32) (hd : d.length = 32) :
    Calls Tryd.prog 35 #[.int .i64 n, .agg (bys d).toArray] w fun e w' => e = .returned (.tuple #[.agg (bys (cutd n d)).toArray, .int .i64 0]) ∧ Chg (fun _ => False) w w' := by
  have hs1 := fun w' => slice_upto (w.heap.size + 1 + 1) n h2 w'
  have hs0 := fun w' => slice_upto w.heap.size n h2 w'
  have hcc := Lib.hid (cut_cells n d hd h2)
  have hbl : (bys (d.take n)).length = n := by rw [bys_length, List.length_take]; omega
  have Hbl := Lib.hid hbl
  have Hd := Lib.hid hd
  obtain ⟨z, hz⟩ : ∃ z, z = dgc [] 0 := ⟨_, rfl⟩
  obtain ⟨w1, hw1⟩ : ∃ w1, w1 = w.alloc (.cells (bys d).toArray 27) := ⟨_, rfl⟩
  have hz1 : w1.heap.size = w.heap.size + 1 := by rw [hw1]; simp
  have b0 : Blk ((w1.alloc (.cells z 27)).alloc (.cells z 27)) w.heap.size 27 (bys d).toArray := by
    have := (((Blk.new w 27 (bys d).toArray).alloc (.cells z 27)).alloc (.cells z 27))
    rwa [← hw1] at this
  have b1 : Blk ((w1.alloc (.cells z 27)).alloc (.cells z 27)) (w.heap.size + 1) 27 z := by
    have := (Blk.new w1 27 z).alloc (.cells z 27)
    rwa [hz1] at this
  have b2 : Blk ((w1.alloc (.cells z 27)).alloc (.cells z 27)) (w.heap.size + 1 + 1) 27 z := by
    have := Blk.new (w1.alloc (.cells z 27)) 27 z
    have e : (w1.alloc (.cells z 27)).heap.size = w.heap.size + 1 + 1 := by rw [← hz1]; simp
    rwa [e] at this
  have cc : Chg (fun _ => False) w ((w1.alloc (.cells z 27)).alloc (.cells z 27)) := by
    rw [hw1]
    exact (((Chg.refl _ w).alloc _).alloc _).alloc _
  have hsrc : ∀ (j : Nat) (v : Value), (bys (d.take n))[j]? = some v → ((w1.alloc (.cells z 27)).alloc (.cells z 27)).drew.cell? ⟨w.heap.size, j, none⟩ = some v := fun j v hv => by
    rw [b0.drew.cell]
    have hj : j < n := by have := (List.getElem?_eq_some_iff.1 hv).1; rw [hbl] at this; exact this
    simp only [bys, List.getElem?_map, List.getElem?_take, if_pos hj] at hv
    simpa [bys] using hv
  subst hw1
  subst hz
  clear hbl hd hz1
  go_enter Tryd.func35, Tryd.ntmps35
  go_wp2_with (go_at_call 58; refine (wide_calls _ _ (by omega) (by omega)).mono ?_; rintro e w' ⟨rfl, rfl⟩)
  go_region_law (refine step_copy_row rfl (.tmp 12) (.tmp 14) 54 54 rfl 5 Tryd.underlying54 ?_ (w.heap.size + 1 + 1) n 32 w.heap.size n 32 (bys (d.take n)) rfl rfl (dgc [] 0) 27 ?_ ?_ ?_ ?_ ?_ ?_; exact (by kernel_rfl); exact b2.drew; exact (by rw [Hbl.out]; simp); exact hsrc; exact (by rw [Hbl.out]; exact h2); exact bys_one _)
  all_goals
    rw [hcc.out]
    obtain ⟨cs, hcs⟩ : ∃ cs, cs = (bys (cutd n d)).toArray := ⟨_, rfl⟩
    have hsz : cs.size = 32 := by rw [hcs]; simp [bys, cutd_length n d Hd.out h2]
    have hone : cs.all (·.oneCell') = true := by rw [hcs]; exact dig_one _
    rw [← hcs]
    have Hcs := Lib.hid hcs
    have Hsz := Lib.hid hsz
    have q2 := b2.drew.setRow cs
    have q1 := (b1.drew).setRow_far (g' := w.heap.size + 1 + 1) (by omega) cs
    have cq := cc.drew.setRow (g := w.heap.size + 1 + 1) (.inr (by omega)) cs
    clear hcs hsz
    go_wp2_with (first | (refine wpList_load_row rfl 27 (.tmp 6) rfl (w.heap.size + 1 + 1) rfl 27 cs (0, 0) _ q2 Tryd.underlying27 rfl (by rw [Hsz.out]; exact info_digest) ?_) | (refine wpList_store_row rfl 27 (.tmp 4) (.tmp 16) rfl (w.heap.size + 1) cs rfl rfl 27 (dgc [] 0) q1 (by rw [Hsz.out]; exact info_digest) (by rw [Hsz.out]; rfl) hone ?_))
    refine bodyPost_ret (results_row_tmp rfl _ _ (w.heap.size + 1) 27 cs (0, 0) _ (.int .i64 0) rfl rfl (q1.setRow cs) Tryd.underlying27 rfl (by rw [Hsz.out]; exact info_digest)) rfl ?_
    exact ⟨by rw [Hcs.out], cq.setRow (.inr (by omega)) _⟩
end Go.Proofs.YtlhdbkbgedlmnaaDoor
