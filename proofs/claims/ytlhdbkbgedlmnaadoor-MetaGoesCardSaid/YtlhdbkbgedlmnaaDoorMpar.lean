/-
  Layer 6: the program's parse of a record's bytes.
-/
import Derived.Test.YtlhdbkbgedlmnaaDoorMrec
import Derived.Test.YtlhdbkbgedlmnaaDoorMdec
import Derived.Test.YtlhdbkbgedlmnaaDoorTake
import Derived.Test.YtlhdbkbgedlmnaaDoorTake8
import Derived.Test.YtlhdbkbgedlmnaaDoorRend
import Derived.Deep.RegionHeld3
namespace Go.Proofs.YtlhdbkbgedlmnaaDoor
open Go.RowKit
set_option linter.unusedVariables false

theorem mcells_set0 (m : Mt.M) (x : Nat) : (mcells m).setIfInBounds 0 (.int .u64 x) = mcells { m with ver := x } := by
  unfold mcells; rw [List.setIfInBounds_toArray]; rfl
theorem mcells_set1 (m : Mt.M) (x : Nat) : (mcells m).setIfInBounds 1 (.int .u32 x) = mcells { m with page := x } := by
  unfold mcells; rw [List.setIfInBounds_toArray]; rfl
theorem mcells_set_tail (m : Mt.M) (hs : m.sum.length = 32) (k : Nat) (v : Value) : (mcells m).setIfInBounds (34 + k) v = (([.int .u64 m.ver, .int .u32 m.page] : List Value) ++ bys m.sum ++ ([.int .u64 m.cnt, .int .u64 m.rver, .int .u32 m.list, .int .u32 m.pages] : List Value).set k v).toArray := by
  have hb : (bys m.sum).length = 32 := by rw [bys_length, hs]
  unfold mcells
  rw [List.setIfInBounds_toArray, List.set_append_right _ _ (by simp [hb])]
  congr 3
  simp [hb]
theorem mcells_set34 (m : Mt.M) (hs : m.sum.length = 32) (x : Nat) : (mcells m).setIfInBounds 34 (.int .u64 x) = mcells { m with cnt := x } := mcells_set_tail m hs 0 _
theorem mcells_set35 (m : Mt.M) (hs : m.sum.length = 32) (x : Nat) : (mcells m).setIfInBounds 35 (.int .u64 x) = mcells { m with rver := x } := mcells_set_tail m hs 1 _
theorem mcells_set36 (m : Mt.M) (hs : m.sum.length = 32) (x : Nat) : (mcells m).setIfInBounds 36 (.int .u32 x) = mcells { m with list := x } := mcells_set_tail m hs 2 _
theorem mcells_set37 (m : Mt.M) (hs : m.sum.length = 32) (x : Nat) : (mcells m).setIfInBounds 37 (.int .u32 x) = mcells { m with pages := x } := mcells_set_tail m hs 3 _
theorem mcells_dig (m : Mt.M) (hs : m.sum.length = 32) (d : List UInt8) (hd : d.length = 32) :
    ((mcells m).toList.take 2 ++ (bys d).toArray.toList ++ (mcells m).toList.drop (2 + (bys d).toArray.size)).toArray = mcells { m with sum := d } := by
  have hb : (bys m.sum).length = 32 := by rw [bys_length, hs]
  have hc : (bys d).length = 32 := by rw [bys_length, hd]
  unfold mcells
  congr 1
  simp only [List.size_toArray, hc]
  have h1 : ([.int .u64 m.ver, .int .u32 m.page] ++ bys m.sum ++ [.int .u64 m.cnt, .int .u64 m.rver, .int .u32 m.list, .int .u32 m.pages] : List Value).take 2 = [.int .u64 m.ver, .int .u32 m.page] := rfl
  have h2 : ([.int .u64 m.ver, .int .u32 m.page] ++ bys m.sum ++ [.int .u64 m.cnt, .int .u64 m.rver, .int .u32 m.list, .int .u32 m.pages] : List Value).drop (2 + 32) = [.int .u64 m.cnt, .int .u64 m.rver, .int .u32 m.list, .int .u32 m.pages] := by
    rw [List.drop_append_of_le_length (by simp [hb]), List.drop_eq_nil_of_le (by simp [hb])]; rfl
  rw [h1, h2]

/-- parse's own blocks: the two results, the frame, the record, the Reader -/
structure Prs (w0 w : World) (b2 b3 b5 b6 g : Nat) (r : Pk.Rd) (f : Mt.F) (m : Mt.M) : Prop where
  kr : IsR w g r
  k2 : Blk w b2 23 #[.int .i64 0, .int .i64 0]
  k3 : Blk w b3 31 (mcells Mt.zero)
  k5 : Blk w b5 23 #[.int .i64 f.page, .int .i64 f.width]
  k6 : Blk w b6 31 (mcells m)
  sum : m.sum.length = 32
  chg : Chg (fun _ => False) w0 w
  lo : w0.heap.size ≤ b2
  h23 : b2 < b3
  h35 : b3 < b5
  h56 : b5 < b6
  h6g : b6 < g
section
variable {w0 w w' : World} {b2 b3 b5 b6 g : Nat} {r r' : Pk.Rd} {f : Mt.F} {m : Mt.M}
theorem Prs.red (h : Prs w0 w b2 b3 b5 b6 g r f m) (hr : Red w w' g r') : Prs w0 w' b2 b3 b5 b6 g r' f m := by
  obtain ⟨a, b, c, d, e, z, i, j, k, l, n, o⟩ := h
  exact ⟨hr.1, b.chg hr.2 (by omega), c.chg hr.2 (by omega), d.chg hr.2 (by omega), e.chg hr.2 (by omega), z, i.new hr.2 (fun k e => by omega), j, k, l, n, o⟩
theorem Prs.quiet (h : Prs w0 w b2 b3 b5 b6 g r f m) (hc : Chg (fun _ => False) w w') : Prs w0 w' b2 b3 b5 b6 g r f m := by
  obtain ⟨a, b, c, d, e, z, i, j, k, l, n, o⟩ := h
  exact ⟨a.chg hc (fun h => h), b.chg hc (fun h => h), c.chg hc (fun h => h), d.chg hc (fun h => h), e.chg hc (fun h => h), z, i.trans hc, j, k, l, n, o⟩
theorem Prs.setF0 (h : Prs w0 w b2 b3 b5 b6 g r f m) (x : Int) : Prs w0 (w.setCell ⟨b5, 0, none⟩ (.int .i64 x)) b2 b3 b5 b6 g r ⟨x, f.width⟩ m := by
  obtain ⟨a, b, c, d, e, z, i, j, k, l, n, o⟩ := h
  exact ⟨⟨a.blk.far (by dsimp only; omega) _, a.le, a.len⟩, b.far (by dsimp only; omega) _, c.far (by dsimp only; omega) _, d.set_ 0 _, e.far (by dsimp only; omega) _, z, i.new (Chg.setCell (p := ⟨b5, 0, none⟩) (Chg.refl (fun k => k = b5) w) (.inl rfl) _) (fun k e => by omega), j, k, l, n, o⟩
theorem Prs.setF1 (h : Prs w0 w b2 b3 b5 b6 g r f m) (x : Int) : Prs w0 (w.setCell ⟨b5, 1, none⟩ (.int .i64 x)) b2 b3 b5 b6 g r ⟨f.page, x⟩ m := by
  obtain ⟨a, b, c, d, e, z, i, j, k, l, n, o⟩ := h
  exact ⟨⟨a.blk.far (by dsimp only; omega) _, a.le, a.len⟩, b.far (by dsimp only; omega) _, c.far (by dsimp only; omega) _, d.set_ 1 _, e.far (by dsimp only; omega) _, z, i.new (Chg.setCell (p := ⟨b5, 1, none⟩) (Chg.refl (fun k => k = b5) w) (.inl rfl) _) (fun k e => by omega), j, k, l, n, o⟩
theorem Prs.setM (h : Prs w0 w b2 b3 b5 b6 g r f m) (q : Nat) (v : Value) (m' : Mt.M) (hm : (mcells m).setIfInBounds q v = mcells m') (hs : m'.sum.length = 32) : Prs w0 (w.setCell ⟨b6, q, none⟩ v) b2 b3 b5 b6 g r f m' := by
  obtain ⟨a, b, c, d, e, z, i, j, k, l, n, o⟩ := h
  exact ⟨⟨a.blk.far (by dsimp only; omega) _, a.le, a.len⟩, b.far (by dsimp only; omega) _, c.far (by dsimp only; omega) _, d.far (by dsimp only; omega) _, by rw [← hm]; exact e.set_ q _, hs, i.new (Chg.setCell (p := ⟨b6, q, none⟩) (Chg.refl (fun k => k = b6) w) (.inl rfl) _) (fun k e => by omega), j, k, l, n, o⟩
theorem Prs.setRow (h : Prs w0 w b2 b3 b5 b6 g r f m) (cs : Array Value) (m' : Mt.M) (hm : cs = mcells m') (hs : m'.sum.length = 32) : Prs w0 (w.setRow b6 cs) b2 b3 b5 b6 g r f m' := by
  obtain ⟨a, b, c, d, e, z, i, j, k, l, n, o⟩ := h
  exact ⟨⟨a.blk.setRow_far (by omega) _, a.le, a.len⟩, b.setRow_far (by omega) _, c.setRow_far (by omega) _, d.setRow_far (by omega) _, by rw [← hm]; exact e.setRow _, hs, i.new (Chg.setRow (g := b6) (Chg.refl (fun k => k = b6) w) (.inl rfl) _) (fun k e => by omega), j, k, l, n, o⟩
theorem Prs.new {w w1 : World} {s : List UInt8} (h1 : IsR w1 ((((w.alloc (.cells #[.int .i64 0, .int .i64 0] 23)).alloc (.cells (mcells Mt.zero) 31)).alloc (.cells #[.int .i64 0, .int .i64 0] 23)).alloc (.cells (mcells Mt.zero) 31)).heap.size ⟨s, 0, 0⟩)
    (hb : Below ((((w.alloc (.cells #[.int .i64 0, .int .i64 0] 23)).alloc (.cells (mcells Mt.zero) 31)).alloc (.cells #[.int .i64 0, .int .i64 0] 23)).alloc (.cells (mcells Mt.zero) 31)).heap.size ((((w.alloc (.cells #[.int .i64 0, .int .i64 0] 23)).alloc (.cells (mcells Mt.zero) 31)).alloc (.cells #[.int .i64 0, .int .i64 0] 23)).alloc (.cells (mcells Mt.zero) 31)) w1) :
    Prs w w1 w.heap.size (w.heap.size + 1) (w.heap.size + 1 + 1) (w.heap.size + 1 + 1 + 1) (w.heap.size + 1 + 1 + 1 + 1) ⟨s, 0, 0⟩ ⟨0, 0⟩ Mt.zero := by
  have c := Chg.of_below hb (fun _ => False)
  have e0 : ∀ (w : World) (o : Obj), (w.alloc o).heap.size = w.heap.size + 1 := fun w o => by simp
  simp only [e0] at h1
  have q1 := Blk.new w 23 #[.int .i64 0, .int .i64 0]
  have q2 := Blk.new (w.alloc (.cells #[.int .i64 0, .int .i64 0] 23)) 31 (mcells Mt.zero)
  have q3 := Blk.new ((w.alloc (.cells #[.int .i64 0, .int .i64 0] 23)).alloc (.cells (mcells Mt.zero) 31)) 23 #[.int .i64 0, .int .i64 0]
  have q4 := Blk.new (((w.alloc (.cells #[.int .i64 0, .int .i64 0] 23)).alloc (.cells (mcells Mt.zero) 31)).alloc (.cells #[.int .i64 0, .int .i64 0] 23)) 31 (mcells Mt.zero)
  simp only [e0] at q1 q2 q3 q4
  have hc0 := ((((Chg.refl (fun _ => False) w).alloc (.cells #[.int .i64 0, .int .i64 0] 23)).alloc (.cells (mcells Mt.zero) 31)).alloc (.cells #[.int .i64 0, .int .i64 0] 23)).alloc (.cells (mcells Mt.zero) 31)
  exact ⟨h1, (((q1.alloc _).alloc _).alloc _).chg c (fun h => h), ((q2.alloc _).alloc _).chg c (fun h => h), (q3.alloc _).chg c (fun h => h), q4.chg c (fun h => h), rfl, hc0.trans c, Nat.le_refl _, by omega, by omega, by omega, by omega⟩
end
section
variable {w0 w w' : World} {b2 b3 b5 b6 g : Nat} {r r' : Pk.Rd} {f : Mt.F} {m : Mt.M}
theorem Prs.f0 (h : Prs w0 w b2 b3 b5 b6 g r f m) : w.cell? ⟨b5, 0, none⟩ = some (.int .i64 f.page) := by rw [h.k5.cell]; rfl
theorem Prs.f1 (h : Prs w0 w b2 b3 b5 b6 g r f m) : w.cell? ⟨b5, 1, none⟩ = some (.int .i64 f.width) := by rw [h.k5.cell]; rfl
theorem Prs.c0 (h : Prs w0 w b2 b3 b5 b6 g r f m) : w.cell? ⟨b6, 0, none⟩ = some (.int .u64 m.ver) := by have := (MCells.of_blk h.k6 h.sum).c0; simpa using this
theorem Prs.c1 (h : Prs w0 w b2 b3 b5 b6 g r f m) : w.cell? ⟨b6, 1, none⟩ = some (.int .u32 m.page) := by have := (MCells.of_blk h.k6 h.sum).c1; simpa using this
theorem Prs.c34 (h : Prs w0 w b2 b3 b5 b6 g r f m) : w.cell? ⟨b6, 34, none⟩ = some (.int .u64 m.cnt) := by have := (MCells.of_blk h.k6 h.sum).c34; simpa using this
theorem Prs.c35 (h : Prs w0 w b2 b3 b5 b6 g r f m) : w.cell? ⟨b6, 35, none⟩ = some (.int .u64 m.rver) := by have := (MCells.of_blk h.k6 h.sum).c35; simpa using this
theorem Prs.c36 (h : Prs w0 w b2 b3 b5 b6 g r f m) : w.cell? ⟨b6, 36, none⟩ = some (.int .u32 m.list) := by have := (MCells.of_blk h.k6 h.sum).c36; simpa using this
theorem Prs.c37 (h : Prs w0 w b2 b3 b5 b6 g r f m) : w.cell? ⟨b6, 37, none⟩ = some (.int .u32 m.pages) := by have := (MCells.of_blk h.k6 h.sum).c37; simpa using this
end
theorem take_fld (s : List UInt8) (p n : Nat) (h : p + n ≤ s.length) : (⟨s, p, 0⟩ : Pk.Rd).take n = (Mt.fld s p n, ⟨s, p + n, 0⟩) := by
  unfold Pk.Rd.take Pk.Rd.left
  rw [if_neg (by simp), if_neg (by dsimp only; omega)]
  rfl
section
variable {w0 w : World} {b2 b3 b5 b6 g p : Nat} {s : List UInt8} {f : Mt.F} {m : Mt.M}
theorem prs_u8 (h : Prs w0 w b2 b3 b5 b6 g ⟨s, p, 0⟩ f m) (q : Nat) (hq : p + 1 = q) (hp : q ≤ s.length) : Calls Tryd.prog 53 #[.pointer (some ⟨g, 0, none⟩)] w fun e w' => e = .returned (.int .u8 (Mt.fld s p 1)) ∧ Prs w0 w' b2 b3 b5 b6 g ⟨s, q, 0⟩ f m := by
  subst hq
  refine (take_uint8 g _ w h.kr).mono ?_
  rintro e w' ⟨rfl, hr⟩
  rw [take_fld s p 1 hp] at hr ⊢
  have hl := Mt.fld_lt s p 1
  have e1 : (256 : Nat) ^ 1 = 256 := by decide
  exact ⟨by rw [← tk_u8 _ hl]; congr 2; omega, h.red hr⟩
theorem prs_u16 (h : Prs w0 w b2 b3 b5 b6 g ⟨s, p, 0⟩ f m) (q : Nat) (hq : p + 2 = q) (hp : q ≤ s.length) : Calls Tryd.prog 54 #[.pointer (some ⟨g, 0, none⟩)] w fun e w' => e = .returned (.int .u16 (Mt.fld s p 2)) ∧ Prs w0 w' b2 b3 b5 b6 g ⟨s, q, 0⟩ f m := by
  subst hq
  refine (take_uint16 g _ w h.kr).mono ?_
  rintro e w' ⟨rfl, hr⟩
  rw [take_fld s p 2 hp] at hr ⊢
  have hl := Mt.fld_lt s p 2
  have e1 : (256 : Nat) ^ 2 = 65536 := by decide
  exact ⟨by rw [← tk_u16 _ hl]; congr 2; omega, h.red hr⟩
theorem prs_u32 (h : Prs w0 w b2 b3 b5 b6 g ⟨s, p, 0⟩ f m) (q : Nat) (hq : p + 4 = q) (hp : q ≤ s.length) : Calls Tryd.prog 52 #[.pointer (some ⟨g, 0, none⟩)] w fun e w' => e = .returned (.int .u32 (Mt.fld s p 4)) ∧ Prs w0 w' b2 b3 b5 b6 g ⟨s, q, 0⟩ f m := by
  subst hq
  refine (take_uint32 g _ w h.kr).mono ?_
  rintro e w' ⟨rfl, hr⟩
  rw [take_fld s p 4 hp] at hr ⊢
  have hl := Mt.fld_lt s p 4
  have e1 : (256 : Nat) ^ 4 = 4294967296 := by decide
  exact ⟨by rw [← tk_u32 _ hl]; congr 2; omega, h.red hr⟩
theorem prs_u64 (h : Prs w0 w b2 b3 b5 b6 g ⟨s, p, 0⟩ f m) (q : Nat) (hq : p + 8 = q) (hp : q ≤ s.length) : Calls Tryd.prog 55 #[.pointer (some ⟨g, 0, none⟩)] w fun e w' => e = .returned (.int .u64 (Mt.fld s p 8)) ∧ Prs w0 w' b2 b3 b5 b6 g ⟨s, q, 0⟩ f m := by
  subst hq
  refine (take_uint64 g _ w h.kr).mono ?_
  rintro e w' ⟨rfl, hr⟩
  rw [take_fld s p 8 hp] at hr ⊢
  have hl := Mt.fld_lt s p 8
  exact ⟨by rw [← tk_u64 _ hl], h.red hr⟩
theorem prs_dig (h : Prs w0 w b2 b3 b5 b6 g ⟨s, p, 0⟩ f m) (q : Nat) (hq : p + 32 = q) (hp : q ≤ s.length) : Calls Tryd.prog 56 #[.pointer (some ⟨g, 0, none⟩), .int .i64 32] w fun e w' => e = .returned (.agg (bys ((s.drop p).take 32)).toArray) ∧ Prs w0 w' b2 b3 b5 b6 g ⟨s, q, 0⟩ f m := by
  subst hq
  refine (rdigest_calls g 32 _ w h.kr).mono ?_
  rintro e w' ⟨rfl, hr⟩
  have hraw : (⟨s, p, 0⟩ : Pk.Rd).raw (wd 32) = ((s.drop p).take 32, ⟨s, p + 32, 0⟩) := by
    unfold Pk.Rd.raw Pk.Rd.left
    rw [if_neg (by simp [wd]), if_neg (by simp [wd]; omega)]
    rfl
  rw [hraw] at hr ⊢
  refine ⟨?_, h.red hr⟩
  rw [show dig ((s.drop p).take 32) = (s.drop p).take 32 from by
    unfold dig
    have : ((s.drop p).take 32).length = 32 := by simp; omega
    rw [this, List.take_of_length_le (by omega)]; simp]
end

/-- parse's blocks at its end: what the results hold is open -/
structure PW (w0 w : World) (b2 b3 b5 b6 g : Nat) (r : Pk.Rd) (f : Mt.F) (m : Mt.M) : Prop where
  kr : IsR w g r
  k2 : ∃ cs, cs.size = 2 ∧ Blk w b2 23 cs
  k3 : ∃ cs, cs.size = 38 ∧ Blk w b3 31 cs
  k5 : Blk w b5 23 #[.int .i64 f.page, .int .i64 f.width]
  k6 : Blk w b6 31 (mcells m)
  sum : m.sum.length = 32
  chg : Chg (fun _ => False) w0 w
  lo : w0.heap.size ≤ b2
  h23 : b2 < b3
  h35 : b3 < b5
  h56 : b5 < b6
  h6g : b6 < g
theorem stF_eq (v x : Value) : Instr.storeAt 23 v x = stAgg 23 v x := rfl
theorem stM_eq (v x : Value) : Instr.storeAt 31 v x = stAgg 31 v x := rfl
theorem stD_eq (v x : Value) : Instr.storeAt 27 v x = stAgg 27 v x := rfl
theorem size_frame : (Tryd.prog.info? 23).map (·.size) = some 2 := by kernel_rfl
theorem stF_of {w : World} {g : Nat} {T : TypeId} {cur : Array Value} (h : Blk w g T cur) (hs : cur.size = 2) (f : Mt.F) : (stAgg 23 (.pointer (some ⟨g, 0, none⟩)) (FV f)).run Tryd.prog w = .ok () (w.setRow g #[.int .i64 f.page, .int .i64 f.width]) := by
  have := stAgg_of (P := Tryd.prog) (t := 23) (off := 0) (cs := #[.int .i64 f.page, .int .i64 f.width]) h size_frame (by simp [hs]) (by simp [Value.oneCell'])
  have hd : cur.toList.drop (0 + (#[.int .i64 f.page, .int .i64 f.width] : Array Value).size) = [] := List.drop_eq_nil_of_le (by simp [hs])
  rw [hd, List.take_zero, List.nil_append, List.append_nil, Array.toArray_toList] at this
  exact this
theorem stM_of {w : World} {g : Nat} {T : TypeId} {cur : Array Value} (h : Blk w g T cur) (hs : cur.size = 38) (m : Mt.M) (hm : m.sum.length = 32) : (stAgg 31 (.pointer (some ⟨g, 0, none⟩)) (.agg (mcells m))).run Tryd.prog w = .ok () (w.setRow g (mcells m)) := by
  have := stAgg_of (P := Tryd.prog) (t := 31) (off := 0) (cs := mcells m) h (by rw [mcells_size m hm]; exact size_meta) (by rw [mcells_size m hm, hs]; omega) (mcells_one m)
  have hd : cur.toList.drop (0 + (mcells m).size) = [] := List.drop_eq_nil_of_le (by rw [mcells_size m hm]; simp [hs])
  rw [hd, List.take_zero, List.nil_append, List.append_nil, Array.toArray_toList] at this
  exact this
theorem stD_of {w : World} {g : Nat} {T : TypeId} {m : Mt.M} (h : Blk w g T (mcells m)) (hs : m.sum.length = 32) (d : List UInt8) (hd : d.length = 32) : (stAgg 27 (.pointer (some ⟨g, 2, none⟩)) (.agg (bys d).toArray)).run Tryd.prog w = .ok () (w.setRow g (mcells { m with sum := d })) := by
  have hz : (bys d).toArray.size = 32 := by simp [bys, hd]
  have := stAgg_of (P := Tryd.prog) (t := 27) (off := 2) (cs := (bys d).toArray) h (by rw [hz]; exact info_digest) (by rw [hz, mcells_size m hs]; omega) (dig_one d)
  rw [this, mcells_dig m hs d hd]
section
variable {w0 w w' : World} {b2 b3 b5 b6 g : Nat} {r r' : Pk.Rd} {f : Mt.F} {m : Mt.M}
theorem Prs.wide (h : Prs w0 w b2 b3 b5 b6 g r f m) : PW w0 w b2 b3 b5 b6 g r f m := by
  obtain ⟨a, b, c, d, e, z, i, j, k, l, n, o⟩ := h
  exact ⟨a, ⟨_, rfl, b⟩, ⟨_, mcells_size _ rfl, c⟩, d, e, z, i, j, k, l, n, o⟩
theorem PW.quiet (h : PW w0 w b2 b3 b5 b6 g r f m) (hc : Chg (fun _ => False) w w') : PW w0 w' b2 b3 b5 b6 g r f m := by
  obtain ⟨a, ⟨x, hx, b⟩, ⟨y, hy, c⟩, d, e, z, i, j, k, l, n, o⟩ := h
  exact ⟨a.chg hc (fun h => h), ⟨x, hx, b.chg hc (fun h => h)⟩, ⟨y, hy, c.chg hc (fun h => h)⟩, d.chg hc (fun h => h), e.chg hc (fun h => h), z, i.trans hc, j, k, l, n, o⟩
theorem PW.row2 (h : PW w0 w b2 b3 b5 b6 g r f m) (cs : Array Value) (hs : cs.size = 2) : PW w0 (w.setRow b2 cs) b2 b3 b5 b6 g r f m := by
  obtain ⟨a, ⟨x, hx, b⟩, ⟨y, hy, c⟩, d, e, z, i, j, k, l, n, o⟩ := h
  exact ⟨⟨a.blk.setRow_far (by omega) _, a.le, a.len⟩, ⟨cs, hs, b.setRow cs⟩, ⟨y, hy, c.setRow_far (by omega) _⟩, d.setRow_far (by omega) _, e.setRow_far (by omega) _, z, i.new (Chg.setRow (g := b2) (Chg.refl (fun k => k = b2) w) (.inl rfl) _) (fun k e => by omega), j, k, l, n, o⟩
theorem PW.row3 (h : PW w0 w b2 b3 b5 b6 g r f m) (cs : Array Value) (hs : cs.size = 38) : PW w0 (w.setRow b3 cs) b2 b3 b5 b6 g r f m := by
  obtain ⟨a, ⟨x, hx, b⟩, ⟨y, hy, c⟩, d, e, z, i, j, k, l, n, o⟩ := h
  exact ⟨⟨a.blk.setRow_far (by omega) _, a.le, a.len⟩, ⟨x, hx, b.setRow_far (by omega) _⟩, ⟨cs, hs, c.setRow cs⟩, d.setRow_far (by omega) _, e.setRow_far (by omega) _, z, i.new (Chg.setRow (g := b3) (Chg.refl (fun k => k = b3) w) (.inl rfl) _) (fun k e => by omega), j, k, l, n, o⟩
/-- what parse's last statement reads and writes -/
def PSays (w0 : World) (b2 b3 b5 b6 g : Nat) (r : Pk.Rd) (f : Mt.F) (m : Mt.M) (w : World) : Prop := w.cell? ⟨b5, 0, none⟩ = some (.int .i64 f.page) ∧ w.cell? ⟨b5, 1, none⟩ = some (.int .i64 f.width) ∧
    (ldAgg 31 (.pointer (some ⟨b6, 0, none⟩))).run Tryd.prog w = .ok (.agg (mcells m)) w ∧
    (stAgg 23 (.pointer (some ⟨b2, 0, none⟩)) (FV f)).run Tryd.prog w = .ok () (w.setRow b2 #[.int .i64 f.page, .int .i64 f.width]) ∧
    (stAgg 31 (.pointer (some ⟨b3, 0, none⟩)) (.agg (mcells m))).run Tryd.prog w = .ok () (w.setRow b3 (mcells m)) ∧ PW w0 w b2 b3 b5 b6 g r f m
theorem PW.said (h : PW w0 w b2 b3 b5 b6 g r f m) : PSays w0 b2 b3 b5 b6 g r f m w := by
  obtain ⟨x, hx, b⟩ := h.k2
  obtain ⟨y, hy, c⟩ := h.k3
  exact ⟨by rw [h.k5.cell]; rfl, by rw [h.k5.cell]; rfl, ldM_of h.k6 h.sum, stF_of b hx f, stM_of c hy m h.sum, h⟩
theorem PSays.pw (h : PSays w0 b2 b3 b5 b6 g r f m w) : PW w0 w b2 b3 b5 b6 g r f m := h.2.2.2.2.2
theorem PW.end_ (h : PW w0 w b2 b3 b5 b6 g r f m) : Blk ((w.setRow b2 #[.int .i64 f.page, .int .i64 f.width]).setRow b3 (mcells m)) b2 23 #[.int .i64 f.page, .int .i64 f.width] ∧ Blk ((w.setRow b2 #[.int .i64 f.page, .int .i64 f.width]).setRow b3 (mcells m)) b3 31 (mcells m) := by
  obtain ⟨x, hx, b⟩ := h.k2
  obtain ⟨y, hy, c⟩ := h.k3
  have := h.h23
  exact ⟨(b.setRow _).setRow_far (by omega) _, (c.setRow_far (by omega) _).setRow _⟩
end
/-- three results, the first two whole structs in memory -/
theorem results_row_row_tmp {P : Program} {fn : Func} {p1 p2 q : Tmp} {t1 t2 : TypeId} (h : fn.results = #[.cell p1 t1, .cell p2 t2, .tmp q]) (tmps : Array Value) (w : World) (g1 g2 : Nat) (T1 T2 : TypeId) (c1 c2 : Array Value) (d1 d2 : TypeDesc) (v3 : Value)
    (hp1 : tmps.getD p1 undef = .pointer (some ⟨g1, 0, none⟩)) (hp2 : tmps.getD p2 undef = .pointer (some ⟨g2, 0, none⟩)) (hq : tmps.getD q undef = v3) (hg1 : Blk w g1 T1 c1) (hg2 : Blk w g2 T2 c2)
    (hu1 : P.underlying t1 = some d1) (hd1 : (match d1 with | .struct _ | .array _ _ => true | _ => false) = true) (hi1 : (P.info? t1).map (·.size) = some c1.size)
    (hu2 : P.underlying t2 = some d2) (hd2 : (match d2 with | .struct _ | .array _ _ => true | _ => false) = true) (hi2 : (P.info? t2).map (·.size) = some c2.size) :
    (results fn tmps).run P w = .ok (.tuple #[.agg c1, .agg c2, v3]) w := by
  have hp1' : tmps[p1]?.getD undef = .pointer (some ⟨g1, 0, none⟩) := by simpa using hp1
  have hp2' : tmps[p2]?.getD undef = .pointer (some ⟨g2, 0, none⟩) := by simpa using hp2
  have hq' : tmps[q]?.getD undef = v3 := by simpa using hq
  simp [results, h, hp1', hp2', hq', asAddr, run_loadVar_row w g1 T1 t1 c1 (0, 0) d1 hg1 hu1 hd1 hi1, run_loadVar_row w g2 T2 t2 c2 (0, 0) d2 hg2 hu2 hd2 hi2]
end Go.Proofs.YtlhdbkbgedlmnaaDoor
