/-
  Layer 6: the document's fields: what stands at a record's places, and the frame that it names.
-/
import Derived.Test.YtlhdbkbgedlmnaaDoorMfld
import Derived.Test.YtlhdbkbgedlmnaaDoorMpar
import Derived.Deep.RegionHeld3
import Derived.Deep.DeepCutAuto
namespace Go.Proofs.YtlhdbkbgedlmnaaDoor
open Go.RowKit
set_option linter.unusedVariables false
set_option linter.unusedSimpArgs false
attribute [local go_sem ↓] ldM_eq stM_eq stF_eq

/-- the frame that a record names, as the document has it -/
def Mt.rF (s : List UInt8) : Mt.F := ⟨if 10 ≤ Mt.fld s 4 1 ∧ Mt.fld s 4 1 ≤ 13 then (2 ^ (Mt.fld s 4 1) : Nat) else 0, (Mt.fld s 5 1 : Nat)⟩
theorem fld_byte {s : List UInt8} {p : Nat} {b : UInt8} (h : s[p]? = some b) : Mt.fld s p 1 = b.toNat := by
  unfold Mt.fld
  obtain ⟨hp, hb⟩ := List.getElem?_eq_some_iff.1 h
  rw [List.drop_eq_getElem_cons hp, hb]
  simp [Pk.num]
/-- 's[i:j]' -/
theorem run_slice_mid {P : Program} (t : TypeId) (ht : P.underlying t = some .string) (l : List UInt8) (i j : Nat) (a b : Int) (ha : a = i) (hb : b = j) (hi : i ≤ j) (hk : j ≤ l.length) (w : World) :
    (Instr.slice t (S l) (some (.int .i64 a)) (some (.int .i64 b)) none).run P w = .ok (S ((l.drop i).take (j - i))) w := by
  subst ha; subst hb
  have := run_slice_string (P := P) w t ⟨l.toArray⟩ .i64 .i64 (i : Int) (j : Int) ht (by omega) (by omega) (by show (j : Int) ≤ (l.length : Int); omega)
  rw [Int.toNat_natCast, Int.toNat_natCast, extract_S] at this
  rw [this]
theorem mcells_set2 (m : Mt.M) (k : Nat) (b : UInt8) (hk : k < m.sum.length) : (mcells m).setIfInBounds (2 + k) (.int .u8 b.toNat) = mcells { m with sum := m.sum.set k b } := by
  unfold mcells
  rw [List.setIfInBounds_toArray]
  congr 1
  rw [List.append_assoc, List.append_assoc, List.set_append_right _ _ (by simp)]
  congr 1
  rw [List.set_append_left _ _ (by rw [bys_length]; simpa using hk)]
  congr 1
  simp [bys, List.map_set]
/-- the first k bytes of a record's digest, then 0 -/
def Mt.dz (s : List UInt8) (k : Nat) : List UInt8 := (s.drop 44).take k ++ List.replicate (32 - k) 0
theorem Mt.dz_len (s : List UInt8) (k : Nat) (hk : k ≤ 32) (h : 80 ≤ s.length) : (Mt.dz s k).length = 32 := by unfold Mt.dz; simp; omega
theorem Mt.dz_set (s : List UInt8) (k : Nat) (b : UInt8) (hk : k < 32) (hb : s[44 + k]? = some b) (h : 80 ≤ s.length) : (Mt.dz s k).set k b = Mt.dz s (k + 1) := by
  have hl : ((s.drop 44).take k).length = k := by simp; omega
  have hb' : (s.drop 44)[k]? = some b := by rw [List.getElem?_drop]; exact hb
  unfold Mt.dz
  rw [List.set_append_right _ _ (by omega), hl, Nat.sub_self, show 32 - k = (32 - (k + 1)) + 1 by omega, List.replicate_succ, List.set_cons_zero, List.take_add_one, hb', List.append_assoc]
  rfl
theorem Mt.dz_end (s : List UInt8) (h : 80 ≤ s.length) : Mt.dz s 32 = (s.drop 44).take 32 := by unfold Mt.dz; simp
/-- fields' own blocks -/
structure FW (w0 w : World) (b2 b3 b5 b6 : Nat) (f : Mt.F) (m : Mt.M) : Prop where
  k2 : ∃ cs, cs.size = 2 ∧ Blk w b2 23 cs
  k3 : ∃ cs, cs.size = 38 ∧ Blk w b3 31 cs
  k5 : Blk w b5 23 #[.int .i64 f.page, .int .i64 f.width]
  k6 : Blk w b6 31 (mcells m)
  sum : m.sum.length = 32
  chg : Chg (fun _ => False) w0 w
  lo : w0.heap.size ≤ b2
  h23 : b2 < b3
  h35 : b3 < b5
  h56 : b5 < b6
section
variable {w0 w w' : World} {b2 b3 b5 b6 : Nat} {f : Mt.F} {m : Mt.M}
theorem FW.quiet (h : FW w0 w b2 b3 b5 b6 f m) (hc : Chg (fun _ => False) w w') : FW w0 w' b2 b3 b5 b6 f m := by
  obtain ⟨⟨x, hx, b⟩, ⟨y, hy, c⟩, d, e, z, i, j, k, l, n⟩ := h
  exact ⟨⟨x, hx, b.chg hc (fun h => h)⟩, ⟨y, hy, c.chg hc (fun h => h)⟩, d.chg hc (fun h => h), e.chg hc (fun h => h), z, i.trans hc, j, k, l, n⟩
theorem FW.row2 (h : FW w0 w b2 b3 b5 b6 f m) (cs : Array Value) (hs : cs.size = 2) : FW w0 (w.setRow b2 cs) b2 b3 b5 b6 f m := by
  obtain ⟨⟨x, hx, b⟩, ⟨y, hy, c⟩, d, e, z, i, j, k, l, n⟩ := h
  exact ⟨⟨cs, hs, b.setRow cs⟩, ⟨y, hy, c.setRow_far (by omega) _⟩, d.setRow_far (by omega) _, e.setRow_far (by omega) _, z, i.new (Chg.setRow (g := b2) (Chg.refl (fun k => k = b2) w) (.inl rfl) _) (fun k e => by omega), j, k, l, n⟩
theorem FW.row3 (h : FW w0 w b2 b3 b5 b6 f m) (cs : Array Value) (hs : cs.size = 38) : FW w0 (w.setRow b3 cs) b2 b3 b5 b6 f m := by
  obtain ⟨⟨x, hx, b⟩, ⟨y, hy, c⟩, d, e, z, i, j, k, l, n⟩ := h
  exact ⟨⟨x, hx, b.setRow_far (by omega) _⟩, ⟨cs, hs, c.setRow cs⟩, d.setRow_far (by omega) _, e.setRow_far (by omega) _, z, i.new (Chg.setRow (g := b3) (Chg.refl (fun k => k = b3) w) (.inl rfl) _) (fun k e => by omega), j, k, l, n⟩
theorem FW.setM (h : FW w0 w b2 b3 b5 b6 f m) (i : Nat) (v : Value) (m' : Mt.M) (hm : (mcells m).setIfInBounds i v = mcells m') (hs : m'.sum.length = 32) : FW w0 (w.setCell ⟨b6, i, none⟩ v) b2 b3 b5 b6 f m' := by
  obtain ⟨⟨x, hx, b⟩, ⟨y, hy, c⟩, d, e, z, ch, j, k, l, n⟩ := h
  exact ⟨⟨x, hx, b.far (by show b2 ≠ b6; omega) _⟩, ⟨y, hy, c.far (by show b3 ≠ b6; omega) _⟩, d.far (by show b5 ≠ b6; omega) _, by rw [← hm]; exact e.set_ i v, hs, ch.setCell (.inr (by show w0.heap.size ≤ b6; omega)) v, j, k, l, n⟩
theorem FW.f0 (h : FW w0 w b2 b3 b5 b6 f m) : w.cell? ⟨b5, 0, none⟩ = some (.int .i64 f.page) := by rw [h.k5.cell]; rfl
theorem FW.f1 (h : FW w0 w b2 b3 b5 b6 f m) : w.cell? ⟨b5, 1, none⟩ = some (.int .i64 f.width) := by rw [h.k5.cell]; rfl
theorem FW.cs (h : FW w0 w b2 b3 b5 b6 f m) : w.cell? ⟨b6, 1, none⟩ = some (.int .u32 m.page) ∧ w.cell? ⟨b6, 34, none⟩ = some (.int .u64 m.cnt) ∧ w.cell? ⟨b6, 35, none⟩ = some (.int .u64 m.rver) := by
  obtain ⟨-, a1, -, a34, a35, -, -⟩ := mcells_at m h.sum
  exact ⟨by rw [h.k6.cell]; exact a1, by rw [h.k6.cell]; exact a34, by rw [h.k6.cell]; exact a35⟩
theorem FW.sumAt (h : FW w0 w b2 b3 b5 b6 f m) (k : Nat) (hk : k < 32) : ∃ b : UInt8, w.cell? ⟨b6, 2 + k, none⟩ = some (.int .u8 b.toNat) := by
  obtain ⟨-, -, a, -, -, -, -⟩ := mcells_at m h.sum
  have hk' : k < m.sum.length := by rw [h.sum]; exact hk
  exact ⟨m.sum[k], by rw [h.k6.cell]; exact a k _ (List.getElem?_eq_getElem hk')⟩
/-- what fields' last statement reads and writes -/
def FSays (w0 : World) (b2 b3 b5 b6 : Nat) (f : Mt.F) (m : Mt.M) (w : World) : Prop := w.cell? ⟨b5, 0, none⟩ = some (.int .i64 f.page) ∧ w.cell? ⟨b5, 1, none⟩ = some (.int .i64 f.width) ∧
    (ldAgg 31 (.pointer (some ⟨b6, 0, none⟩))).run Tryd.prog w = .ok (.agg (mcells m)) w ∧
    (stAgg 23 (.pointer (some ⟨b2, 0, none⟩)) (FV f)).run Tryd.prog w = .ok () (w.setRow b2 #[.int .i64 f.page, .int .i64 f.width]) ∧
    (stAgg 31 (.pointer (some ⟨b3, 0, none⟩)) (.agg (mcells m))).run Tryd.prog w = .ok () (w.setRow b3 (mcells m)) ∧ FW w0 w b2 b3 b5 b6 f m
theorem FW.said (h : FW w0 w b2 b3 b5 b6 f m) : FSays w0 b2 b3 b5 b6 f m w := by
  obtain ⟨x, hx, b⟩ := h.k2
  obtain ⟨y, hy, c⟩ := h.k3
  exact ⟨by rw [h.k5.cell]; rfl, by rw [h.k5.cell]; rfl, ldM_of h.k6 h.sum, stF_of b hx f, stM_of c hy m h.sum, h⟩
theorem FSays.pw (h : FSays w0 b2 b3 b5 b6 f m w) : FW w0 w b2 b3 b5 b6 f m := h.2.2.2.2.2
theorem FW.end_ (h : FW w0 w b2 b3 b5 b6 f m) : Blk ((w.setRow b2 #[.int .i64 f.page, .int .i64 f.width]).setRow b3 (mcells m)) b2 23 #[.int .i64 f.page, .int .i64 f.width] ∧ Blk ((w.setRow b2 #[.int .i64 f.page, .int .i64 f.width]).setRow b3 (mcells m)) b3 31 (mcells m) := by
  obtain ⟨x, hx, b⟩ := h.k2
  obtain ⟨y, hy, c⟩ := h.k3
  have := h.h23
  exact ⟨(b.setRow _).setRow_far (by omega) _, (c.setRow_far (by omega) _).setRow _⟩
end
/-- two results, both whole structs in memory -/
theorem results_row_row {P : Program} {fn : Func} {p1 p2 : Tmp} {t1 t2 : TypeId} (h : fn.results = #[.cell p1 t1, .cell p2 t2]) (tmps : Array Value) (w : World) (g1 g2 : Nat) (T1 T2 : TypeId) (c1 c2 : Array Value) (d1 d2 : TypeDesc)
    (hp1 : tmps.getD p1 undef = .pointer (some ⟨g1, 0, none⟩)) (hp2 : tmps.getD p2 undef = .pointer (some ⟨g2, 0, none⟩)) (hg1 : Blk w g1 T1 c1) (hg2 : Blk w g2 T2 c2)
    (hu1 : P.underlying t1 = some d1) (hd1 : (match d1 with | .struct _ | .array _ _ => true | _ => false) = true) (hi1 : (P.info? t1).map (·.size) = some c1.size)
    (hu2 : P.underlying t2 = some d2) (hd2 : (match d2 with | .struct _ | .array _ _ => true | _ => false) = true) (hi2 : (P.info? t2).map (·.size) = some c2.size) :
    (results fn tmps).run P w = .ok (.tuple #[.agg c1, .agg c2]) w := by
  have hp1' : tmps[p1]?.getD undef = .pointer (some ⟨g1, 0, none⟩) := by simpa using hp1
  have hp2' : tmps[p2]?.getD undef = .pointer (some ⟨g2, 0, none⟩) := by simpa using hp2
  simp [results, h, hp1', hp2', asAddr, run_loadVar_row w g1 T1 t1 c1 (0, 0) d1 hg1 hu1 hd1 hi1, run_loadVar_row w g2 T2 t2 c2 (0, 0) d2 hg2 hu2 hd2 hi2]

theorem alloc_setRow (u : World) (cs cs' : Array Value) (t : TypeId) : (u.alloc (.cells cs t)).setRow u.heap.size cs' = u.alloc (.cells cs' t) := by
  rw [← World.alloc_eq, ← World.alloc_eq]
  unfold World.setRow
  congr 1
  apply Array.ext
  · simp
  · intro i h1 h2
    simp only [Array.size_modify, Array.size_push] at h1 h2
    rw [Array.getElem_modify]
    rcases Nat.lt_or_ge i u.heap.size with h | h
    · rw [if_neg (by omega), Array.getElem_push_lt h, Array.getElem_push_lt h]
    · obtain rfl : i = u.heap.size := by omega
      simp
theorem stF_new (u : World) (g : Nat) (hg : u.heap.size = g) (x y : Value) (f : Mt.F) : (stAgg 23 (.pointer (some ⟨g, 0, none⟩)) (FV f)).run Tryd.prog (u.alloc (.cells #[x, y] 23)) = .ok () (u.alloc (.cells #[.int .i64 f.page, .int .i64 f.width] 23)) := by
  subst hg
  have := stF_of (Blk.new u 23 #[x, y]) rfl f
  rw [alloc_setRow] at this
  exact this
/-- the first regions are gone through: a frame is laid, a record is to be laid -/
theorem FW.new (w : World) (f : Mt.F) (M : Mt.M) (hM : M.sum.length = 32) : ∃ wm,
    (stAgg 31 (.pointer (some ⟨w.heap.size + 1 + 1 + 1, 0, none⟩)) (.agg (mcells M))).run Tryd.prog (((((w.alloc (.cells #[.int .i64 0, .int .i64 0] 23)).alloc (.cells #[.int .u64 0, .int .u32 0, .int .u8 0, .int .u8 0, .int .u8 0, .int .u8 0, .int .u8 0, .int .u8 0, .int .u8 0, .int .u8 0, .int .u8 0, .int .u8 0, .int .u8 0, .int .u8 0, .int .u8 0, .int .u8 0, .int .u8 0, .int .u8 0, .int .u8 0, .int .u8 0, .int .u8 0, .int .u8 0, .int .u8 0, .int .u8 0, .int .u8 0, .int .u8 0, .int .u8 0, .int .u8 0, .int .u8 0, .int .u8 0, .int .u8 0, .int .u8 0, .int .u8 0, .int .u8 0, .int .u64 0, .int .u64 0, .int .u32 0, .int .u32 0] 31)).alloc (.cells #[.int .i64 f.page, .int .i64 f.width] 23)).alloc (.cells #[.int .u64 0, .int .u32 0, .int .u8 0, .int .u8 0, .int .u8 0, .int .u8 0, .int .u8 0, .int .u8 0, .int .u8 0, .int .u8 0, .int .u8 0, .int .u8 0, .int .u8 0, .int .u8 0, .int .u8 0, .int .u8 0, .int .u8 0, .int .u8 0, .int .u8 0, .int .u8 0, .int .u8 0, .int .u8 0, .int .u8 0, .int .u8 0, .int .u8 0, .int .u8 0, .int .u8 0, .int .u8 0, .int .u8 0, .int .u8 0, .int .u8 0, .int .u8 0, .int .u8 0, .int .u8 0, .int .u64 0, .int .u64 0, .int .u32 0, .int .u32 0] 31)).drew) = .ok () wm ∧
    FW w wm w.heap.size (w.heap.size + 1) (w.heap.size + 1 + 1) (w.heap.size + 1 + 1 + 1) f M := by
  have e0 : ∀ (w : World) (o : Obj), (w.alloc o).heap.size = w.heap.size + 1 := fun w o => by simp
  have q1 := Blk.new w 23 #[.int .i64 0, .int .i64 0]
  have q2 := Blk.new (w.alloc (.cells #[.int .i64 0, .int .i64 0] 23)) 31 (mcells Mt.zero)
  have q3 := Blk.new ((w.alloc (.cells #[.int .i64 0, .int .i64 0] 23)).alloc (.cells (mcells Mt.zero) 31)) 23 #[.int .i64 f.page, .int .i64 f.width]
  have q4 := Blk.new (((w.alloc (.cells #[.int .i64 0, .int .i64 0] 23)).alloc (.cells (mcells Mt.zero) 31)).alloc (.cells #[.int .i64 f.page, .int .i64 f.width] 23)) 31 (mcells Mt.zero)
  simp only [e0] at q1 q2 q3 q4
  have hc0 := (((((Chg.refl (fun _ => False) w).alloc (.cells #[.int .i64 0, .int .i64 0] 23)).alloc (.cells (mcells Mt.zero) 31)).alloc (.cells #[.int .i64 f.page, .int .i64 f.width] 23)).alloc (.cells (mcells Mt.zero) 31)).drew
  refine ⟨_, stM_of q4.drew (mcells_size _ rfl) M hM, ⟨_, rfl, (((q1.alloc _).alloc _).alloc _).drew.setRow_far (by omega) _⟩, ⟨_, mcells_size _ rfl, ((q2.alloc _).alloc _).drew.setRow_far (by omega) _⟩, (q3.alloc _).drew.setRow_far (by omega) _, q4.drew.setRow _, hM, ?_, Nat.le_refl _, by omega, by omega, by omega⟩
  exact hc0.new (Chg.setRow (g := w.heap.size + 1 + 1 + 1) (Chg.refl (fun k => k = w.heap.size + 1 + 1 + 1) _) (.inl rfl) (mcells M)) (fun k e => by omega)

set_option maxHeartbeats 4000000 in
set_option maxRecDepth 100000 in
theorem fields_calls (s : List UInt8) (w : World) (h80 : 80 ≤ s.length) (hs : s.length ≤ 140737488355328) :
    Calls Tryd.prog 49 #[S s] w fun e w' => e = .returned (.tuple #[FV (Mt.rF s), .agg (mcells (Mt.fM s))]) ∧ Chg (fun _ => False) w w' := by
  obtain ⟨b4, hb4, hi4, -⟩ := byte_at s (k := 4) (by omega)
  obtain ⟨b5, hb5, hi5, -⟩ := byte_at s (k := 5) (by omega)
  have e4 := fld_byte hb4
  have e5 := fld_byte hb5
  have HF : Hid (Mt.rF s = ⟨if 10 ≤ b4.toNat ∧ b4.toNat ≤ 13 then (2 ^ b4.toNat : Nat) else 0, (b5.toNat : Nat)⟩) := Lib.hid (by unfold Mt.rF; rw [e4, e5])
  clear hb4 hb5 e4 e5
  have hl4 := b4.toNat_lt
  have hl5 := b5.toNat_lt
  have hcw : IntKind.i64.wrap (b5.toNat : Int) = (b5.toNat : Int) := IntWalk.i64_in _ (by omega)
  have hcv : IntKind.i64.wrap (b4.toNat : Int) = (b4.toNat : Int) := IntWalk.i64_in _ (by omega)
  have x8 := Mt.fld_lt s 8 8
  have x16 := Mt.fld_lt s 16 8
  have x24 := Mt.fld_lt s 24 8
  have x32 := Mt.fld_lt s 32 4
  have x36 := Mt.fld_lt s 36 4
  have x40 := Mt.fld_lt s 40 4
  rw [show (256 : Nat) ^ 4 = 4294967296 from by decide] at x32 x36 x40
  have s8 := run_slice_mid (P := Tryd.prog) 9 Tryd.underlying9 s 8 16 8 16 rfl rfl (by omega) (by omega)
  have s16 := run_slice_mid (P := Tryd.prog) 9 Tryd.underlying9 s 16 24 16 24 rfl rfl (by omega) (by omega)
  have s24 := run_slice_mid (P := Tryd.prog) 9 Tryd.underlying9 s 24 32 24 32 rfl rfl (by omega) (by omega)
  have s32 := run_slice_mid (P := Tryd.prog) 9 Tryd.underlying9 s 32 36 32 36 rfl rfl (by omega) (by omega)
  have s36 := run_slice_mid (P := Tryd.prog) 9 Tryd.underlying9 s 36 40 36 40 rfl rfl (by omega) (by omega)
  have s40 := run_slice_mid (P := Tryd.prog) 9 Tryd.underlying9 s 40 44 40 44 rfl rfl (by omega) (by omega)
  simp only [Nat.reduceSub] at s8 s16 s24 s32 s36 s40
  have v8 := Lib.hid (fun w => whole_calls ((s.drop 8).take 8) w (by simp; omega))
  have v16 := Lib.hid (fun w => whole_calls ((s.drop 16).take 8) w (by simp; omega))
  have v24 := Lib.hid (fun w => whole_calls ((s.drop 24).take 8) w (by simp; omega))
  have v32 := Lib.hid (fun w => whole_calls ((s.drop 32).take 4) w (by simp; omega))
  have v36 := Lib.hid (fun w => whole_calls ((s.drop 36).take 4) w (by simp; omega))
  have v40 := Lib.hid (fun w => whole_calls ((s.drop 40).take 4) w (by simp; omega))
  change Hid (∀ w, Calls _ _ _ w fun e w' => e = .returned (.int .u64 (Mt.fld s 8 8)) ∧ w = w') at v8
  change Hid (∀ w, Calls _ _ _ w fun e w' => e = .returned (.int .u64 (Mt.fld s 16 8)) ∧ w = w') at v16
  change Hid (∀ w, Calls _ _ _ w fun e w' => e = .returned (.int .u64 (Mt.fld s 24 8)) ∧ w = w') at v24
  change Hid (∀ w, Calls _ _ _ w fun e w' => e = .returned (.int .u64 (Mt.fld s 32 4)) ∧ w = w') at v32
  change Hid (∀ w, Calls _ _ _ w fun e w' => e = .returned (.int .u64 (Mt.fld s 36 4)) ∧ w = w') at v36
  change Hid (∀ w, Calls _ _ _ w fun e w' => e = .returned (.int .u64 (Mt.fld s 40 4)) ∧ w = w') at v40
  have c32 : IntKind.u32.wrap (Mt.fld s 32 4 : Int) = (Mt.fld s 32 4 : Int) := by rw [IntKind.wrap_u32]; omega
  have c36 : IntKind.u32.wrap (Mt.fld s 36 4 : Int) = (Mt.fld s 36 4 : Int) := by rw [IntKind.wrap_u32]; omega
  have c40 : IntKind.u32.wrap (Mt.fld s 40 4 : Int) = (Mt.fld s 40 4 : Int) := by rw [IntKind.wrap_u32]; omega
  clear x8 x16 x24 x32 x36 x40
  have hst0 := stF_new ((w.alloc (.cells #[.int .i64 0, .int .i64 0] 23)).alloc (.cells #[.int .u64 0, .int .u32 0, .int .u8 0, .int .u8 0, .int .u8 0, .int .u8 0, .int .u8 0, .int .u8 0, .int .u8 0, .int .u8 0, .int .u8 0, .int .u8 0, .int .u8 0, .int .u8 0, .int .u8 0, .int .u8 0, .int .u8 0, .int .u8 0, .int .u8 0, .int .u8 0, .int .u8 0, .int .u8 0, .int .u8 0, .int .u8 0, .int .u8 0, .int .u8 0, .int .u8 0, .int .u8 0, .int .u8 0, .int .u8 0, .int .u8 0, .int .u8 0, .int .u8 0, .int .u8 0, .int .u64 0, .int .u64 0, .int .u32 0, .int .u32 0] 31)) (w.heap.size + 1 + 1) (by simp) (.int .i64 0) (.int .i64 0) ⟨0, (b5.toNat : Nat)⟩
  go_enter Tryd.func49, Tryd.ntmps49
  obtain ⟨tb, htb⟩ : ∃ tb : Bool, tb = decide (10 ≤ b4.toNat ∧ b4.toNat ≤ 13) := ⟨_, rfl⟩
  have Htb := Lib.hid htb
  clear htb
  go_upto_region 2 with fail
  go_cut [18] (fun s18 wx => s18 = .bool tb ∧ wx = (((w.alloc (.cells #[.int .i64 0, .int .i64 0] 23)).alloc (.cells #[.int .u64 0, .int .u32 0, .int .u8 0, .int .u8 0, .int .u8 0, .int .u8 0, .int .u8 0, .int .u8 0, .int .u8 0, .int .u8 0, .int .u8 0, .int .u8 0, .int .u8 0, .int .u8 0, .int .u8 0, .int .u8 0, .int .u8 0, .int .u8 0, .int .u8 0, .int .u8 0, .int .u8 0, .int .u8 0, .int .u8 0, .int .u8 0, .int .u8 0, .int .u8 0, .int .u8 0, .int .u8 0, .int .u8 0, .int .u8 0, .int .u8 0, .int .u8 0, .int .u8 0, .int .u8 0, .int .u64 0, .int .u64 0, .int .u32 0, .int .u32 0] 31)).alloc (.cells #[.int .i64 0, .int .i64 b5.toNat] 23)))
  case first =>
    go_wp2_with fail
    all_goals go_meet
    · have h1 : 10 ≤ (b4.toNat : Int) := by assumption
      exact ⟨by rw [Htb.out]; congr 1; rw [decide_eq_decide]; omega, rfl⟩
    · have h1 : (b4.toNat : Int) < 10 := by assumption
      exact ⟨by rw [Htb.out]; congr 1; symm; rw [decide_eq_false_iff_not]; omega, rfl⟩
  case rest =>
  obtain ⟨rfl, rfl⟩ := hcut
  go_upto_if 18 with fail
  go_cut [4] (fun s4 wx => ∃ p : Int, (Mt.rF s = ⟨p, (b5.toNat : Nat)⟩) ∧ s4 = .pointer (some ⟨w.heap.size + 1 + 1, 0, none⟩) ∧ wx = (((w.alloc (.cells #[.int .i64 0, .int .i64 0] 23)).alloc (.cells #[.int .u64 0, .int .u32 0, .int .u8 0, .int .u8 0, .int .u8 0, .int .u8 0, .int .u8 0, .int .u8 0, .int .u8 0, .int .u8 0, .int .u8 0, .int .u8 0, .int .u8 0, .int .u8 0, .int .u8 0, .int .u8 0, .int .u8 0, .int .u8 0, .int .u8 0, .int .u8 0, .int .u8 0, .int .u8 0, .int .u8 0, .int .u8 0, .int .u8 0, .int .u8 0, .int .u8 0, .int .u8 0, .int .u8 0, .int .u8 0, .int .u8 0, .int .u8 0, .int .u8 0, .int .u8 0, .int .u64 0, .int .u64 0, .int .u32 0, .int .u32 0] 31)).alloc (.cells #[.int .i64 p, .int .i64 b5.toNat] 23)))
  case first =>
    cases tb
    · go_wp2_with fail
      go_meet
      exact ⟨0, by rw [HF.out, if_neg (by have := Htb.out; simpa using this.symm)], rfl, rfl⟩
    · go_wp2_with fail
      go_meet
      refine ⟨_, ?_, rfl, rfl⟩
      have h := Htb.out
      have h := of_decide_eq_true h.symm
      rw [HF.out, if_pos h]
      congr 1
      rw [show min b4.toNat 64 = b4.toNat by omega]
      have : (2 : Nat) ^ b4.toNat ≤ 2 ^ 13 := Nat.pow_le_pow_right (by decide) (by omega)
      rw [show (2 : Nat) ^ 13 = 8192 from by decide] at this
      have e : (2 : Int) ^ b4.toNat = ((2 ^ b4.toNat : Nat) : Int) := by simp
      rw [e]
      generalize (2 : Nat) ^ b4.toNat = q at *
      unfold wrap64
      omega
  case rest =>
    obtain ⟨p, HR, rfl, rfl⟩ := hcut
    have HR := Lib.hid HR
    obtain ⟨wm, hst, W⟩ := FW.new w ⟨p, (b5.toNat : Nat)⟩ ⟨Mt.fld s 8 8, 0, List.replicate 32 0, 0, 0, Mt.fld s 36 4, Mt.fld s 40 4⟩ rfl
    change (stAgg 31 (.pointer (some ⟨w.heap.size + 1 + 1 + 1, 0, none⟩)) (.agg #[.int .u64 (Mt.fld s 8 8), .int .u32 (0), .int .u8 0, .int .u8 0, .int .u8 0, .int .u8 0, .int .u8 0, .int .u8 0, .int .u8 0, .int .u8 0, .int .u8 0, .int .u8 0, .int .u8 0, .int .u8 0, .int .u8 0, .int .u8 0, .int .u8 0, .int .u8 0, .int .u8 0, .int .u8 0, .int .u8 0, .int .u8 0, .int .u8 0, .int .u8 0, .int .u8 0, .int .u8 0, .int .u8 0, .int .u8 0, .int .u8 0, .int .u8 0, .int .u8 0, .int .u8 0, .int .u8 0, .int .u8 0, .int .u64 (0), .int .u64 (0), .int .u32 (Mt.fld s 36 4), .int .u32 (Mt.fld s 40 4)])).run Tryd.prog _ = _ at hst
    go_upto_region 4 with fail
    go_cut [5] (fun s5 wx => s5 = .pointer (some ⟨w.heap.size + 1 + 1 + 1, 0, none⟩) ∧ wx = wm)
    case first =>
      go_region_held3 (fun w' => True) (first | trivial | go_keep)
        (first
          | (go_at_call 67; ((with_reducible refine (v8.out _).mono ?_); rintro e w' ⟨rfl, rfl⟩))
          | (go_at_call 67; ((with_reducible refine (v36.out _).mono ?_); rintro e w' ⟨rfl, rfl⟩))
          | (go_at_call 67; ((with_reducible refine (v40.out _).mono ?_); rintro e w' ⟨rfl, rfl⟩)))
      all_goals (go_wp2_with fail; go_meet; exact ⟨rfl, rfl⟩)
    case rest =>
    obtain ⟨rfl, rfl⟩ := hcut
    clear hst s8 s36 s40 c36 c40
    have Hv8 := v8
    clear v8 v36 v40
    obtain ⟨k1, k34, k35⟩ := W.cs
    have z1 := W.k6.frozen 1
    have z34 := W.k6.frozen 34
    have z35 := W.k6.frozen 35
    go_wp2_with (first
      | (go_at_call 67; ((with_reducible refine (v16.out _).mono ?_); rintro e w' ⟨rfl, rfl⟩))
      | (go_at_call 67; ((with_reducible refine (v24.out _).mono ?_); rintro e w' ⟨rfl, rfl⟩))
      | (go_at_call 67; ((with_reducible refine (v32.out _).mono ?_); rintro e w' ⟨rfl, rfl⟩)))
    clear k1 k34 k35 z1 z34 z35 s16 s24 s32 c32 v16 v24 v32
    have W := W.setM 34 _ _ (mcells_set34 _ W.sum (Mt.fld s 16 8)) rfl
    have W := W.setM 35 _ _ (mcells_set35 _ W.sum (Mt.fld s 24 8)) rfl
    have W := W.setM 1 _ _ (mcells_set1 _ (Mt.fld s 32 4)) rfl
    generalize ((wc.setCell ⟨w.heap.size + 1 + 1 + 1, 34, none⟩ (.int .u64 (Mt.fld s 16 8))).setCell ⟨w.heap.size + 1 + 1 + 1, 35, none⟩ (.int .u64 (Mt.fld s 24 8))).setCell ⟨w.heap.size + 1 + 1 + 1, 1, none⟩ (.int .u32 (Mt.fld s 32 4)) = wz at W ⊢
    go_loopw [6] (fun iv wr => ∃ k : Nat, k ≤ 32 ∧ iv = .int .i64 k ∧ FW w wr w.heap.size (w.heap.size + 1) (w.heap.size + 1 + 1) (w.heap.size + 1 + 1 + 1) ⟨p, (b5.toNat : Nat)⟩ ⟨Mt.fld s 8 8, Mt.fld s 32 4, Mt.dz s k, Mt.fld s 16 8, Mt.fld s 24 8, Mt.fld s 36 4, Mt.fld s 40 4⟩) (fun iv _ => 32 - (intOf iv).toNat)
    case atStart => exact ⟨0, by omega, rfl, W⟩
    case round =>
      obtain ⟨k, hk, rfl, V⟩ := hrel
      rcases Nat.lt_or_ge k 32 with hlt | hge
      · obtain ⟨b, hb, hbi, -⟩ := byte_at s (k := 44 + k) (by omega)
        obtain ⟨x, c⟩ := V.sumAt k hlt
        have z := V.k6.frozen (2 + k)
        have hset := Mt.dz_set s k b hlt hb h80
        have hw1 : IntKind.i64.wrap (44 + (k : Int)) = 44 + (k : Int) := IntWalk.i64_in _ (by omega)
        have hw2 : (44 + (k : Int)).toNat = 44 + k := by omega
        have V2 := V.setM (2 + k) (.int .u8 b.toNat) _ (mcells_set2 _ k b (by rw [V.sum]; exact hlt)) (by simp; rw [Mt.dz_len s k hk h80])
        dsimp only at V2
        rw [hset] at V2
        clear hset hb
        have hkl : 44 + k < s.length := by omega
        go_wp2_with fail
        go_roundw
        case rel => exact ⟨k + 1, by omega, by go_num, V2⟩
        case measure => simp [intOf]; omega
      · obtain rfl : k = 32 := by omega
        rw [Mt.dz_end s h80] at V
        change FW w wr _ _ _ _ _ (Mt.fM s) at V
        have hms := V.sum
        have W := V
        clear V
        go_wp2_with fail
        refine wp_region_held_drew (S := (fun w' => FSays w w.heap.size (w.heap.size + 1) (w.heap.size + 1 + 1) (w.heap.size + 1 + 1 + 1) ⟨p, (b5.toNat : Nat)⟩ (Mt.fM s) w')) (by kernel_rfl) (W.quiet ((Chg.refl _ _).drew)).said (fun hHeld => ?_)
        refine wpAnyH_take (i := 0) (v := (FV ⟨p, (b5.toNat : Nat)⟩)) rfl (by kernel_rfl) (by kernel_rfl) (by kernel_rfl) (fun _ _ _ h => h) (Or.inl ⟨by rfl, ?_⟩) hHeld ?_
        · intro w hSw
          obtain ⟨s1, s2, s3, s4, s5, -⟩ := hSw
          go_simp
        try simp only [Act.put, List.getElem_toArray, List.getElem_cons_zero, List.getElem_cons_succ, List.setIfInBounds_toArray, List.set_cons_zero, List.set_cons_succ]
        refine wpAnyH_take (i := 1) (v := (.agg (mcells (Mt.fM s)))) rfl (by kernel_rfl) (by kernel_rfl) (by kernel_rfl) (fun _ _ _ h => h) (Or.inl ⟨by rfl, ?_⟩) hHeld ?_
        · intro w hSw
          obtain ⟨s1, s2, s3, s4, s5, -⟩ := hSw
          go_simp
        try simp only [Act.put, List.getElem_toArray, List.getElem_cons_zero, List.getElem_cons_succ, List.setIfInBounds_toArray, List.set_cons_zero, List.set_cons_succ]
        refine wpAnyH_ready (rs := [2]) (by kernel_rfl) (by simp) (AllReadyH.cons rfl (fun K hK => ?_) AllReadyH.nil)
        have st2 := hHeld.2.2.2.1
        have E := Lib.hid hHeld.pw.end_
        go_simp
        clear st2
        refine hK.out _ _ ((hHeld.pw.row2 #[.int .i64 p, .int .i64 (b5.toNat : Nat)] rfl).said) (fun hHeld => ?_)
        clear hK K
        try simp only [Act.put, List.getElem_toArray, List.getElem_cons_zero, List.getElem_cons_succ, List.setIfInBounds_toArray, List.set_cons_zero, List.set_cons_succ]
        refine wpAnyH_ready (rs := [3]) (by kernel_rfl) (by simp) (AllReadyH.cons rfl (fun K hK => ?_) AllReadyH.nil)
        have st3 := hHeld.2.2.2.2.1
        go_simp
        clear st3
        refine hK.out _ _ ((hHeld.pw.row3 _ (mcells_size _ hms)).said) (fun hHeld => ?_)
        clear hK K
        try simp only [Act.put, List.getElem_toArray, List.getElem_cons_zero, List.getElem_cons_succ, List.setIfInBounds_toArray, List.set_cons_zero, List.set_cons_succ]
        refine wpAnyH_done (by kernel_rfl) ?_ _
        go_wp2_with fail
        obtain ⟨e2, e3⟩ := E.out
        refine bodyPost_ret (v := .tuple #[FV ⟨p, (b5.toNat : Nat)⟩, .agg (mcells (Mt.fM s))]) (results_row_row rfl _ _ _ _ _ _ _ _ _ _ rfl rfl e2 e3 Tryd.underlying23 rfl size_frame Tryd.underlying31 rfl (by rw [mcells_size _ hms]; exact size_meta)) rfl ⟨by first | rfl | rw [HR.out], hHeld.pw.chg⟩
end Go.Proofs.YtlhdbkbgedlmnaaDoor
