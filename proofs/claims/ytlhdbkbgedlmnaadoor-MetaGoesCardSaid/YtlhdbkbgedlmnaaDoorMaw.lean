/-
  Layer 6: the law's own functions plain, awake.
-/
import Derived.Test.YtlhdbkbgedlmnaaDoorMlawp
import Derived.Test.YtlhdbkbgedlmnaaDoorMenc
namespace Go.Proofs.YtlhdbkbgedlmnaaDoor
open Go.RowKit
set_option linter.unusedVariables false
set_option linter.unusedSimpArgs false
theorem stR_eq (v x : Value) : Instr.storeAt 29 v x = stAgg 29 v x := rfl
attribute [local go_sem ↓] ldM_eq stF_eq stM_eq stR_eq

/-- the law's plain frame and record -/
def Mt.f0 : Mt.F := ⟨1024, 4⟩
def Mt.m0 : Mt.M := ⟨1, 2, [1, 2, 3, 4, 0, 0, 0, 0, 0, 0, 0, 0, 0, 0, 0, 0, 0, 0, 0, 0, 0, 0, 0, 0, 0, 0, 0, 0, 0, 0, 0, 0], 5, 1, 0, 3⟩
theorem m0_ok : Mt.m0.Ok := ⟨by decide, by decide, by decide, by decide, by decide, by decide, by decide⟩
theorem f0m0 : Mt.ok Mt.f0 Mt.m0 = true := by decide +kernel
theorem stM_new (u : World) (g : Nat) (hg : u.heap.size = g) (cs cs' : Array Value) (h : cs.size = 38) (h' : cs'.size = 38) (h1 : cs'.all (·.oneCell') = true) : (stAgg 31 (.pointer (some ⟨g, 0, none⟩)) (.agg cs')).run Tryd.prog (u.alloc (.cells cs 31)) = .ok () (u.alloc (.cells cs' 31)) := by
  subst hg
  have hb := Blk.new u 31 cs
  have := stAgg_of (P := Tryd.prog) (t := 31) (off := 0) (cs := cs') hb (by rw [h']; exact size_meta) (by rw [h', h]; omega) h1
  have hd : cs.toList.drop (0 + cs'.size) = [] := List.drop_eq_nil_of_le (by rw [h']; simp [h])
  rw [hd, List.take_zero, List.nil_append, List.append_nil, Array.toArray_toList, alloc_setRow] at this
  exact this
theorem stR_new (u : World) (g : Nat) (hg : u.heap.size = g) (cs ds rs : Array Value) (h : cs.size = 38) (h' : rs.size = 35) (h1 : rs.all (·.oneCell') = true) (hd : (cs.toList.take 1 ++ rs.toList ++ cs.toList.drop (1 + rs.size)).toArray = ds) :
    (stAgg 29 (.pointer (some ⟨g, 1, none⟩)) (.agg rs)).run Tryd.prog (u.alloc (.cells cs 31)) = .ok () (u.alloc (.cells ds 31)) := by
  subst hg
  have hb := Blk.new u 31 cs
  have := stAgg_of (P := Tryd.prog) (t := 29) (off := 1) (cs := rs) hb (by rw [h']; exact size_root) (by rw [h', h]; omega) h1
  rw [hd, alloc_setRow] at this
  exact this
/-- a frame that was told is laid into a block of its own, and a record -/
theorem pair_new (w3 : World) (F : Mt.F) (M : Mt.M) (hM : M.sum.length = 32) : ∃ wy wz,
    (stAgg 23 (.pointer (some ⟨w3.heap.size, 0, none⟩)) (FV F)).run Tryd.prog ((w3.alloc (.cells #[.int .i64 0, .int .i64 0] 23)).alloc (.cells #[.int .u64 0, .int .u32 0, .int .u8 0, .int .u8 0, .int .u8 0, .int .u8 0, .int .u8 0, .int .u8 0, .int .u8 0, .int .u8 0, .int .u8 0, .int .u8 0, .int .u8 0, .int .u8 0, .int .u8 0, .int .u8 0, .int .u8 0, .int .u8 0, .int .u8 0, .int .u8 0, .int .u8 0, .int .u8 0, .int .u8 0, .int .u8 0, .int .u8 0, .int .u8 0, .int .u8 0, .int .u8 0, .int .u8 0, .int .u8 0, .int .u8 0, .int .u8 0, .int .u8 0, .int .u8 0, .int .u64 0, .int .u64 0, .int .u32 0, .int .u32 0] 31)) = .ok () wy ∧
    (stAgg 31 (.pointer (some ⟨w3.heap.size + 1, 0, none⟩)) (.agg (mcells M))).run Tryd.prog wy = .ok () wz ∧
    FM wz w3.heap.size (w3.heap.size + 1) F M ∧ Chg (fun _ => False) w3 wz := by
  have b1 : Blk ((w3.alloc (.cells #[.int .i64 0, .int .i64 0] 23)).alloc (.cells (mcells Mt.zero) 31)) w3.heap.size 23 #[.int .i64 0, .int .i64 0] := (Blk.new w3 _ _).alloc _
  have b2 : Blk ((w3.alloc (.cells #[.int .i64 0, .int .i64 0] 23)).alloc (.cells (mcells Mt.zero) 31)) (w3.heap.size + 1) 31 (mcells Mt.zero) := by
    have := Blk.new (w3.alloc (.cells #[.int .i64 0, .int .i64 0] 23)) 31 (mcells Mt.zero)
    rw [show (w3.alloc (.cells #[.int .i64 0, .int .i64 0] 23)).heap.size = w3.heap.size + 1 by simp] at this
    exact this
  refine ⟨_, _, stF_of b1 rfl F, stM_of (b2.setRow_far (by omega) _) (mcells_size _ rfl) M hM, ⟨(b1.setRow _).setRow_far (by omega) _, (b2.setRow_far (by omega) _).setRow _⟩, ?_⟩
  have c := ((Chg.refl (fun _ => False) w3).alloc (.cells #[.int .i64 0, .int .i64 0] 23)).alloc (.cells (mcells Mt.zero) 31)
  have c1 := c.new (Chg.setRow (g := w3.heap.size) (Chg.refl (fun k => k = w3.heap.size) _) (.inl rfl) #[.int .i64 F.page, .int .i64 F.width]) (fun k e => by omega)
  exact c1.new (Chg.setRow (g := w3.heap.size + 1) (Chg.refl (fun k => k = w3.heap.size + 1) _) (.inl rfl) (mcells M)) (fun k e => by omega)
/-- a record that was told is laid into a block of its own -/
theorem one_new (w3 : World) (M : Mt.M) (hM : M.sum.length = 32) : ∃ wy,
    (stAgg 31 (.pointer (some ⟨w3.heap.size, 0, none⟩)) (.agg (mcells M))).run Tryd.prog (w3.alloc (.cells #[.int .u64 0, .int .u32 0, .int .u8 0, .int .u8 0, .int .u8 0, .int .u8 0, .int .u8 0, .int .u8 0, .int .u8 0, .int .u8 0, .int .u8 0, .int .u8 0, .int .u8 0, .int .u8 0, .int .u8 0, .int .u8 0, .int .u8 0, .int .u8 0, .int .u8 0, .int .u8 0, .int .u8 0, .int .u8 0, .int .u8 0, .int .u8 0, .int .u8 0, .int .u8 0, .int .u8 0, .int .u8 0, .int .u8 0, .int .u8 0, .int .u8 0, .int .u8 0, .int .u8 0, .int .u8 0, .int .u64 0, .int .u64 0, .int .u32 0, .int .u32 0] 31)) = .ok () wy ∧
    Blk wy w3.heap.size 31 (mcells M) ∧ Chg (fun _ => False) w3 wy :=
  ⟨_, stM_new w3 w3.heap.size rfl (mcells Mt.zero) (mcells M) (mcells_size _ rfl) (mcells_size _ hM) (mcells_one M), Blk.new _ _ _, (Chg.refl _ w3).alloc _⟩
/-- plain's own blocks -/
structure PLW (w0 w : World) (b2 b3 b6 : Nat) (m : Mt.M) : Prop where
  k2 : ∃ cs, cs.size = 2 ∧ Blk w b2 23 cs
  k3 : ∃ cs, cs.size = 38 ∧ Blk w b3 31 cs
  k6 : Blk w b6 31 (mcells m)
  sum : m.sum.length = 32
  chg : Chg (fun _ => False) w0 w
  lo : w0.heap.size ≤ b2
  h23 : b2 < b3
  h36 : b3 < b6
section
variable {w0 w w' : World} {b2 b3 b6 : Nat} {m : Mt.M}
theorem PLW.drew (h : PLW w0 w b2 b3 b6 m) : PLW w0 w.drew b2 b3 b6 m := by
  obtain ⟨⟨x, hx, b⟩, ⟨y, hy, c⟩, e, z, i, j, k, l⟩ := h
  exact ⟨⟨x, hx, b.drew⟩, ⟨y, hy, c.drew⟩, e.drew, z, i.drew, j, k, l⟩
theorem PLW.row2 (h : PLW w0 w b2 b3 b6 m) (cs : Array Value) (hs : cs.size = 2) : PLW w0 (w.setRow b2 cs) b2 b3 b6 m := by
  obtain ⟨⟨x, hx, b⟩, ⟨y, hy, c⟩, e, z, i, j, k, l⟩ := h
  exact ⟨⟨cs, hs, b.setRow cs⟩, ⟨y, hy, c.setRow_far (by omega) _⟩, e.setRow_far (by omega) _, z, i.new (Chg.setRow (g := b2) (Chg.refl (fun k => k = b2) w) (.inl rfl) _) (fun k e => by omega), j, k, l⟩
theorem PLW.row3 (h : PLW w0 w b2 b3 b6 m) (cs : Array Value) (hs : cs.size = 38) : PLW w0 (w.setRow b3 cs) b2 b3 b6 m := by
  obtain ⟨⟨x, hx, b⟩, ⟨y, hy, c⟩, e, z, i, j, k, l⟩ := h
  exact ⟨⟨x, hx, b.setRow_far (by omega) _⟩, ⟨cs, hs, c.setRow cs⟩, e.setRow_far (by omega) _, z, i.new (Chg.setRow (g := b3) (Chg.refl (fun k => k = b3) w) (.inl rfl) _) (fun k e => by omega), j, k, l⟩
def PLSays (w0 : World) (b2 b3 b6 : Nat) (m : Mt.M) (w : World) : Prop := (ldAgg 31 (.pointer (some ⟨b6, 0, none⟩))).run Tryd.prog w = .ok (.agg (mcells m)) w ∧
    (stAgg 23 (.pointer (some ⟨b2, 0, none⟩)) (.agg #[.int .i64 1024, .int .i64 4])).run Tryd.prog w = .ok () (w.setRow b2 #[.int .i64 1024, .int .i64 4]) ∧
    (stAgg 31 (.pointer (some ⟨b3, 0, none⟩)) (.agg (mcells m))).run Tryd.prog w = .ok () (w.setRow b3 (mcells m)) ∧ PLW w0 w b2 b3 b6 m
theorem PLW.said (h : PLW w0 w b2 b3 b6 m) : PLSays w0 b2 b3 b6 m w := by
  obtain ⟨x, hx, b⟩ := h.k2
  obtain ⟨y, hy, c⟩ := h.k3
  exact ⟨ldM_of h.k6 h.sum, stF_of b hx Mt.f0, stM_of c hy m h.sum, h⟩
theorem PLSays.pw (h : PLSays w0 b2 b3 b6 m w) : PLW w0 w b2 b3 b6 m := h.2.2.2
theorem PLW.end_ (h : PLW w0 w b2 b3 b6 m) : Blk ((w.setRow b2 #[.int .i64 1024, .int .i64 4]).setRow b3 (mcells m)) b2 23 #[.int .i64 1024, .int .i64 4] ∧ Blk ((w.setRow b2 #[.int .i64 1024, .int .i64 4]).setRow b3 (mcells m)) b3 31 (mcells m) := by
  obtain ⟨x, hx, b⟩ := h.k2
  obtain ⟨y, hy, c⟩ := h.k3
  have := h.h23
  exact ⟨(b.setRow _).setRow_far (by omega) _, (c.setRow_far (by omega) _).setRow _⟩
end
theorem PLW.new (w : World) (m : Mt.M) (hm : m.sum.length = 32) : PLW w (((w.alloc (.cells #[.int .i64 0, .int .i64 0] 23)).alloc (.cells #[.int .u64 0, .int .u32 0, .int .u8 0, .int .u8 0, .int .u8 0, .int .u8 0, .int .u8 0, .int .u8 0, .int .u8 0, .int .u8 0, .int .u8 0, .int .u8 0, .int .u8 0, .int .u8 0, .int .u8 0, .int .u8 0, .int .u8 0, .int .u8 0, .int .u8 0, .int .u8 0, .int .u8 0, .int .u8 0, .int .u8 0, .int .u8 0, .int .u8 0, .int .u8 0, .int .u8 0, .int .u8 0, .int .u8 0, .int .u8 0, .int .u8 0, .int .u8 0, .int .u8 0, .int .u8 0, .int .u64 0, .int .u64 0, .int .u32 0, .int .u32 0] 31)).alloc (.cells (mcells m) 31)) w.heap.size (w.heap.size + 1) (w.heap.size + 1 + 1) m := by
  have e0 : ∀ (w : World) (o : Obj), (w.alloc o).heap.size = w.heap.size + 1 := fun w o => by simp
  have q1 := Blk.new w 23 #[.int .i64 0, .int .i64 0]
  have q2 := Blk.new (w.alloc (.cells #[.int .i64 0, .int .i64 0] 23)) 31 (mcells Mt.zero)
  have q3 := Blk.new ((w.alloc (.cells #[.int .i64 0, .int .i64 0] 23)).alloc (.cells (mcells Mt.zero) 31)) 31 (mcells m)
  simp only [e0] at q1 q2 q3
  exact ⟨⟨_, rfl, ((q1.alloc _).alloc _)⟩, ⟨_, mcells_size _ rfl, (q2.alloc _)⟩, q3, hm, ((((Chg.refl (fun _ => False) w).alloc _).alloc _).alloc _), Nat.le_refl _, by omega, by omega⟩

set_option maxHeartbeats 4000000 in
set_option maxRecDepth 100000 in
theorem plain_calls (w : World) : Calls Tryd.prog 27 #[] w fun e w' => e = .returned (.tuple #[.agg #[.int .i64 1024, .int .i64 4], .agg (mcells Mt.m0)]) ∧ Chg (fun _ => False) w w' := by
  have hst1 := stM_new ((w.alloc (.cells #[.int .i64 0, .int .i64 0] 23)).alloc (.cells #[.int .u64 0, .int .u32 0, .int .u8 0, .int .u8 0, .int .u8 0, .int .u8 0, .int .u8 0, .int .u8 0, .int .u8 0, .int .u8 0, .int .u8 0, .int .u8 0, .int .u8 0, .int .u8 0, .int .u8 0, .int .u8 0, .int .u8 0, .int .u8 0, .int .u8 0, .int .u8 0, .int .u8 0, .int .u8 0, .int .u8 0, .int .u8 0, .int .u8 0, .int .u8 0, .int .u8 0, .int .u8 0, .int .u8 0, .int .u8 0, .int .u8 0, .int .u8 0, .int .u8 0, .int .u8 0, .int .u64 0, .int .u64 0, .int .u32 0, .int .u32 0] 31)) (w.heap.size + 1 + 1) (by simp) #[.int .u64 0, .int .u32 0, .int .u8 0, .int .u8 0, .int .u8 0, .int .u8 0, .int .u8 0, .int .u8 0, .int .u8 0, .int .u8 0, .int .u8 0, .int .u8 0, .int .u8 0, .int .u8 0, .int .u8 0, .int .u8 0, .int .u8 0, .int .u8 0, .int .u8 0, .int .u8 0, .int .u8 0, .int .u8 0, .int .u8 0, .int .u8 0, .int .u8 0, .int .u8 0, .int .u8 0, .int .u8 0, .int .u8 0, .int .u8 0, .int .u8 0, .int .u8 0, .int .u8 0, .int .u8 0, .int .u64 0, .int .u64 0, .int .u32 0, .int .u32 0] #[.int .u64 (1), .int .u32 (0), .int .u8 0, .int .u8 0, .int .u8 0, .int .u8 0, .int .u8 0, .int .u8 0, .int .u8 0, .int .u8 0, .int .u8 0, .int .u8 0, .int .u8 0, .int .u8 0, .int .u8 0, .int .u8 0, .int .u8 0, .int .u8 0, .int .u8 0, .int .u8 0, .int .u8 0, .int .u8 0, .int .u8 0, .int .u8 0, .int .u8 0, .int .u8 0, .int .u8 0, .int .u8 0, .int .u8 0, .int .u8 0, .int .u8 0, .int .u8 0, .int .u8 0, .int .u8 0, .int .u64 (0), .int .u64 (0), .int .u32 (0), .int .u32 (3)] rfl rfl (by simp [Value.oneCell'])
  have hst2 := stR_new ((w.alloc (.cells #[.int .i64 0, .int .i64 0] 23)).alloc (.cells #[.int .u64 0, .int .u32 0, .int .u8 0, .int .u8 0, .int .u8 0, .int .u8 0, .int .u8 0, .int .u8 0, .int .u8 0, .int .u8 0, .int .u8 0, .int .u8 0, .int .u8 0, .int .u8 0, .int .u8 0, .int .u8 0, .int .u8 0, .int .u8 0, .int .u8 0, .int .u8 0, .int .u8 0, .int .u8 0, .int .u8 0, .int .u8 0, .int .u8 0, .int .u8 0, .int .u8 0, .int .u8 0, .int .u8 0, .int .u8 0, .int .u8 0, .int .u8 0, .int .u8 0, .int .u8 0, .int .u64 0, .int .u64 0, .int .u32 0, .int .u32 0] 31)) (w.heap.size + 1 + 1) (by simp) #[.int .u64 (1), .int .u32 (0), .int .u8 0, .int .u8 0, .int .u8 0, .int .u8 0, .int .u8 0, .int .u8 0, .int .u8 0, .int .u8 0, .int .u8 0, .int .u8 0, .int .u8 0, .int .u8 0, .int .u8 0, .int .u8 0, .int .u8 0, .int .u8 0, .int .u8 0, .int .u8 0, .int .u8 0, .int .u8 0, .int .u8 0, .int .u8 0, .int .u8 0, .int .u8 0, .int .u8 0, .int .u8 0, .int .u8 0, .int .u8 0, .int .u8 0, .int .u8 0, .int .u8 0, .int .u8 0, .int .u64 (0), .int .u64 (0), .int .u32 (0), .int .u32 (3)] (mcells Mt.m0) #[.int .u32 2, .int .u8 1, .int .u8 2, .int .u8 3, .int .u8 4, .int .u8 0, .int .u8 0, .int .u8 0, .int .u8 0, .int .u8 0, .int .u8 0, .int .u8 0, .int .u8 0, .int .u8 0, .int .u8 0, .int .u8 0, .int .u8 0, .int .u8 0, .int .u8 0, .int .u8 0, .int .u8 0, .int .u8 0, .int .u8 0, .int .u8 0, .int .u8 0, .int .u8 0, .int .u8 0, .int .u8 0, .int .u8 0, .int .u8 0, .int .u8 0, .int .u8 0, .int .u8 0, .int .u64 5, .int .u64 1] rfl rfl (by simp [Value.oneCell']) rfl
  have W := PLW.new w Mt.m0 rfl
  generalize hwx : ((w.alloc (.cells #[.int .i64 0, .int .i64 0] 23)).alloc (.cells #[.int .u64 0, .int .u32 0, .int .u8 0, .int .u8 0, .int .u8 0, .int .u8 0, .int .u8 0, .int .u8 0, .int .u8 0, .int .u8 0, .int .u8 0, .int .u8 0, .int .u8 0, .int .u8 0, .int .u8 0, .int .u8 0, .int .u8 0, .int .u8 0, .int .u8 0, .int .u8 0, .int .u8 0, .int .u8 0, .int .u8 0, .int .u8 0, .int .u8 0, .int .u8 0, .int .u8 0, .int .u8 0, .int .u8 0, .int .u8 0, .int .u8 0, .int .u8 0, .int .u8 0, .int .u8 0, .int .u64 0, .int .u64 0, .int .u32 0, .int .u32 0] 31)).alloc (.cells (mcells Mt.m0) 31) = wx at hst2 W
  have Hwx := Lib.hid hwx
  clear hwx
  have hms : Mt.m0.sum.length = 32 := rfl
  go_enter Tryd.func27, Tryd.ntmps27
  go_wp2_with fail
  clear hst1 hst2
  refine wp_region_held_drew (S := (fun w' => PLSays w w.heap.size (w.heap.size + 1) (w.heap.size + 1 + 1) Mt.m0 w')) (by kernel_rfl) (W.drew).said (fun hHeld => ?_)
  refine wpAnyH_take (i := 0) (v := (.agg #[.int .i64 1024, .int .i64 4])) rfl (by kernel_rfl) (by kernel_rfl) (by kernel_rfl) (fun _ _ _ h => h) (Or.inl ⟨by rfl, ?_⟩) hHeld ?_
  · intro w hSw
    obtain ⟨s1, s2, s3, -⟩ := hSw
    go_simp
  try simp only [Act.put, List.getElem_toArray, List.getElem_cons_zero, List.getElem_cons_succ, List.setIfInBounds_toArray, List.set_cons_zero, List.set_cons_succ]
  refine wpAnyH_take (i := 1) (v := (.agg (mcells Mt.m0))) rfl (by kernel_rfl) (by kernel_rfl) (by kernel_rfl) (fun _ _ _ h => h) (Or.inl ⟨by rfl, ?_⟩) hHeld ?_
  · intro w hSw
    obtain ⟨s1, s2, s3, -⟩ := hSw
    go_simp
  try simp only [Act.put, List.getElem_toArray, List.getElem_cons_zero, List.getElem_cons_succ, List.setIfInBounds_toArray, List.set_cons_zero, List.set_cons_succ]
  refine wpAnyH_ready (rs := [2]) (by kernel_rfl) (by simp) (AllReadyH.cons rfl (fun K hK => ?_) AllReadyH.nil)
  have st2 := hHeld.2.1
  have E := Lib.hid hHeld.pw.end_
  go_simp
  clear st2
  refine hK.out _ _ ((hHeld.pw.row2 #[.int .i64 1024, .int .i64 4] rfl).said) (fun hHeld => ?_)
  clear hK K
  try simp only [Act.put, List.getElem_toArray, List.getElem_cons_zero, List.getElem_cons_succ, List.setIfInBounds_toArray, List.set_cons_zero, List.set_cons_succ]
  refine wpAnyH_ready (rs := [3]) (by kernel_rfl) (by simp) (AllReadyH.cons rfl (fun K hK => ?_) AllReadyH.nil)
  have st3 := hHeld.2.2.1
  go_simp
  clear st3
  refine hK.out _ _ ((hHeld.pw.row3 _ (mcells_size _ hms)).said) (fun hHeld => ?_)
  clear hK K
  try simp only [Act.put, List.getElem_toArray, List.getElem_cons_zero, List.getElem_cons_succ, List.setIfInBounds_toArray, List.set_cons_zero, List.set_cons_succ]
  refine wpAnyH_done (by kernel_rfl) ?_ _
  go_wp2_with fail
  obtain ⟨e2, e3⟩ := E.out
  exact bodyPost_ret (v := .tuple #[.agg #[.int .i64 1024, .int .i64 4], .agg (mcells Mt.m0)]) (results_row_row rfl _ _ _ _ _ _ _ _ _ _ rfl rfl e2 e3 Tryd.underlying23 rfl size_frame Tryd.underlying31 rfl (by rw [mcells_size _ hms]; exact size_meta)) rfl ⟨rfl, hHeld.pw.chg⟩

/-- the plain record's page -/
def Mt.e0 : List UInt8 := Mt.enc Mt.f0 Mt.m0
theorem e0_len : Mt.e0.length = 1024 := by have := enc_length m0_ok f0m0; unfold Mt.e0; rw [show Mt.f0.page = 1024 from rfl] at this; omega
theorem e0_take : Mt.e0.take 8 = [104, 119, 109, 49, 10, 4, 0, 0] := by
  have h : Mt.e0 = [104, 119, 109, 49, 10, 4, 0, 0] ++ (Mt.e0.drop 8) := by
    unfold Mt.e0 Mt.enc Mt.rec Mt.body
    simp only [List.append_assoc]
    rw [show Pk.be 4 1752657201 = [104, 119, 109, 49] by decide, show Pk.be 1 ((Mt.lg Mt.f0.page : Nat) : Int) = [10] by decide, show Pk.be 1 Mt.f0.width = [4] by decide, show Pk.be 2 0 = [0, 0] by decide]
    rfl
  rw [h]; rfl
theorem chk_zero : chk Mt.f0 Mt.zero = 2 := chk_no (by decide +kernel)

set_option maxHeartbeats 8000000 in
set_option maxRecDepth 100000 in
theorem awake_calls (w : World) : Calls Tryd.prog 14 #[] w fun e w' => e = .returned (.bool true) ∧ Chg (fun _ => False) w w' := by
  have hms : Mt.m0.sum.length = 32 := rfl
  have Hms := Lib.hid hms
  have HE := Lib.hid (fun w => (show Calls Tryd.prog 16 #[.agg #[.int .i64 1024, .int .i64 4], .agg (mcells Mt.m0)] w _ from encode_calls Mt.f0 Mt.m0 w m0_ok))
  have he1 : encS Mt.f0 Mt.m0 = Mt.e0 := encS_yes f0m0
  have he2 : chk Mt.f0 Mt.m0 = 0 := chk_yes f0m0
  rw [he1, he2] at HE
  have HC := Lib.hid (fun w => (show Calls Tryd.prog 12 #[.agg #[.int .i64 1024, .int .i64 4], .agg #[.int .u64 0, .int .u32 0, .int .u8 0, .int .u8 0, .int .u8 0, .int .u8 0, .int .u8 0, .int .u8 0, .int .u8 0, .int .u8 0, .int .u8 0, .int .u8 0, .int .u8 0, .int .u8 0, .int .u8 0, .int .u8 0, .int .u8 0, .int .u8 0, .int .u8 0, .int .u8 0, .int .u8 0, .int .u8 0, .int .u8 0, .int .u8 0, .int .u8 0, .int .u8 0, .int .u8 0, .int .u8 0, .int .u8 0, .int .u8 0, .int .u8 0, .int .u8 0, .int .u8 0, .int .u8 0, .int .u64 0, .int .u64 0, .int .u32 0, .int .u32 0]] w _ from check_calls Mt.f0 Mt.zero w zero_ok))
  rw [chk_zero] at HC
  have hl0 := e0_len
  have HD := Lib.hid (fun w => (show Calls Tryd.prog 18 #[.agg #[.int .i64 1024, .int .i64 4], S Mt.e0] w _ from decode_calls Mt.f0 Mt.e0 w))
  have HP := Lib.hid (fun w => (show Calls Tryd.prog 20 #[.agg #[.int .i64 1024, .int .i64 4], S Mt.e0, S Mt.e0, .int .i64 3] w _ from pick_calls Mt.f0 Mt.e0 Mt.e0 3 w))
  obtain ⟨d1, d2, d3⟩ := dc_back m0_ok f0m0
  have d4 := pick_back m0_ok f0m0 3 (by decide) (by decide)
  change dcM Mt.f0 Mt.e0 = Mt.m0 at d1
  change dcK Mt.f0 Mt.e0 = 1 at d2
  change dcE Mt.f0 Mt.e0 = 0 at d3
  change pick Mt.f0 Mt.e0 Mt.e0 3 = (Mt.m0, 1, 0) at d4
  rw [d1, d2, d3] at HD
  rw [d4] at HP
  have hsl := fun w => run_slice_to (P := Tryd.prog) 9 Tryd.underlying9 Mt.e0 8 8 rfl (by rw [hl0]; omega) w
  rw [e0_take] at hsl
  have hn : ((Mt.e0.length : Int) == 1024) = true := by rw [hl0]; rfl
  have hn2 : ((Mt.e0.length : Int) != 1024) = false := by rw [hl0]; rfl
  have heq := fun w => eql_meta Mt.m0 Mt.m0 rfl rfl w
  rw [decide_eq_true rfl] at heq
  have hgm := guard_meta
  obtain ⟨E, hE⟩ : ∃ E, E = Mt.e0 := ⟨_, rfl⟩
  rw [← hE] at HE HD HP hsl hn hn2
  clear he1 he2 hl0 d1 d2 d3 d4 hE hms
  go_enter Tryd.func14, Tryd.ntmps14
  go_wp2_with fail
  refine (plain_calls _).mono ?_
  rintro e w1 ⟨rfl, hc⟩
  obtain ⟨wy, wz, st1, st2, q, hz⟩ := pair_new w1 ⟨1024, 4⟩ Mt.m0 Hms.out
  dsimp only at st1 st2
  have C := hc.trans hz
  clear hc hz
  have l := q.ld Hms.out
  have f0 := q.f0
  have f1 := q.f1
  go_wp2_with fail
  refine (HE.out _).mono ?_
  rintro e w2 ⟨rfl, hc⟩
  have C := C.trans hc
  have q := q.chg hc
  clear hc st1 st2 l f0 f1
  have l := q.ld Hms.out
  have f0 := q.f0
  have f1 := q.f1
  go_wp2_with fail
  refine (HC.out _).mono ?_
  rintro e w3 ⟨rfl, hc⟩
  have C := C.trans hc
  have q := q.chg hc
  clear hc l f0 f1
  have l := q.ld Hms.out
  have f0 := q.f0
  have f1 := q.f1
  go_wp2_with fail
  refine (HD.out _).mono ?_
  rintro e w4 ⟨rfl, hc⟩
  obtain ⟨wy, st1, k1, hz⟩ := one_new w4 Mt.m0 Hms.out
  have C := (C.trans hc).trans hz
  have q := (q.chg hc).chg hz
  clear hc hz l f0 f1
  have l := q.ld Hms.out
  have f0 := q.f0
  have f1 := q.f1
  go_wp2_with fail
  refine (HP.out _).mono ?_
  rintro e w5 ⟨rfl, hc⟩
  obtain ⟨wx, st2, k2, hz⟩ := one_new w5 Mt.m0 Hms.out
  have C := (C.trans hc).trans hz
  have q := (q.chg hc).chg hz
  have k1 := (k1.chg hc (fun h => h)).chg hz (fun h => h)
  clear hc hz l f0 f1 st1
  have l := q.ld Hms.out
  have l1 := ldM_of k1 Hms.out
  have l2 := ldM_of k2 Hms.out
  go_wp2_with fail
  go_ret
  exact ⟨rfl, C⟩
end Go.Proofs.YtlhdbkbgedlmnaaDoor
