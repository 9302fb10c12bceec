/-
  Layer 6: the program's Decode: what a slot's page is.
-/
import Derived.Test.YtlhdbkbgedlmnaaDoorMpar2
import Derived.Test.YtlhdbkbgedlmnaaDoorMtrim
import Derived.Test.YtlhdbkbgedlmnaaDoorMeq
namespace Go.Proofs.YtlhdbkbgedlmnaaDoor
open Go.RowKit
set_option linter.unusedVariables false
set_option linter.unusedSimpArgs false
attribute [local go_sem ↓] ldM_eq stF_eq stM_eq

/-- three results, the first one a whole struct in memory -/
theorem results_row_tmp_tmp {P : Program} {fn : Func} {p q r : Tmp} {ty : TypeId} (h : fn.results = #[.cell p ty, .tmp q, .tmp r]) (tmps : Array Value) (w : World) (g : Nat) (t : TypeId) (cs : Array Value) (d : TypeDesc) (v2 v3 : Value)
    (hp : tmps.getD p undef = .pointer (some ⟨g, 0, none⟩)) (hq : tmps.getD q undef = v2) (hr : tmps.getD r undef = v3) (hg : Blk w g t cs)
    (hu : P.underlying ty = some d) (hd : (match d with | .struct _ | .array _ _ => true | _ => false) = true) (hi : (P.info? ty).map (·.size) = some cs.size) :
    (results fn tmps).run P w = .ok (.tuple #[.agg cs, v2, v3]) w := by
  have hp' : tmps[p]?.getD undef = .pointer (some ⟨g, 0, none⟩) := by simpa using hp
  have hq' : tmps[q]?.getD undef = v2 := by simpa using hq
  have hr' : tmps[r]?.getD undef = v3 := by simpa using hr
  simp [results, h, hp', hq', hr', asAddr, run_loadVar_row w g t ty cs (0, 0) d hg hu hd hi]

/-- what Decode tells -/
def dcM (f : Mt.F) (s : List UInt8) : Mt.M := if Mt.fit f s = true then Mt.told f (Mt.sect f s) else Mt.zero
def dcK (f : Mt.F) (s : List UInt8) : Nat := if Mt.fit f s = true then Mt.kind f (Mt.sect f s) else 0
def dcE (f : Mt.F) (s : List UInt8) : Int := if Mt.fit f s = true then 0 else 2
theorem told_sum (f : Mt.F) (s : List UInt8) (h : 80 ≤ s.length) : (Mt.told f s).sum.length = 32 := by
  unfold Mt.told; split
  · exact (Mt.fM_ok (by simp; omega)).sum
  · rfl
theorem told_ok (f : Mt.F) (s : List UInt8) (h : 80 ≤ s.length) : (Mt.told f s).Ok := by
  unfold Mt.told; split
  · exact Mt.fM_ok (by simp; omega)
  · exact ⟨by decide, by decide, by decide, by decide, by decide, by decide, by decide⟩
theorem zero_ok : Mt.zero.Ok := ⟨by decide, by decide, by decide, by decide, by decide, by decide, by decide⟩
theorem fit_sect {f : Mt.F} {s : List UInt8} (h : Mt.fit f s = true) : ∃ q : Nat, f.page = 8 * (q : Int) ∧ 128 ≤ q ∧ q ≤ 1024 ∧ s.length = 8 * q ∧ Mt.sect f s = s.take q ∧ (Mt.sect f s).length = q := by
  unfold Mt.fit at h
  simp only [Bool.and_eq_true, decide_eq_true_iff] at h
  obtain ⟨h1, h2⟩ := h
  obtain ⟨hp, -, -⟩ := Mt.mayF_iff.1 h1
  refine ⟨(f.page / 8).toNat, by omega, by omega, by omega, by omega, ?_, ?_⟩
  · unfold Mt.sect; congr 1; omega
  · unfold Mt.sect; rw [List.length_take]; omega
theorem dcM_ok (f : Mt.F) (s : List UInt8) : (dcM f s).Ok := by
  unfold dcM; split
  · rename_i h
    obtain ⟨q, -, h1, -, -, -, h2⟩ := fit_sect h
    exact told_ok f _ (by omega)
  · exact zero_ok
set_option maxRecDepth 100000 in
theorem sector_calls (p wd : Int) (q : Nat) (w : World) (h : p = 8 * (q : Int)) (hq : q ≤ 1024) : Calls Tryd.prog 32 #[.agg #[.int .i64 p, .int .i64 wd]] w fun e w' => e = .returned (.int .i64 q) ∧ Chg (fun _ => False) w w' := by
  have h0 : 0 ≤ p := by omega
  have h1 : p ≤ 8192 := by omega
  have H := Lib.hid h
  clear h
  go_enter Tryd.func32, Tryd.ntmps32
  go_wp2_with fail
  go_ret
  exact ⟨ret_int (by have := H.out; omega), (Chg.refl _ w).alloc _⟩
/-- Decode's own blocks -/
structure Dc (w0 w : World) (f : Mt.F) (m : Mt.M) : Prop where
  f : Blk w w0.heap.size 23 #[.int .i64 f.page, .int .i64 f.width]
  m : Blk w (w0.heap.size + 1) 31 (mcells m)
  chg : Chg (fun _ => False) w0 w
theorem Dc.new {w w1 : World} {f : Mt.F} (h : Chg (fun _ => False) ((w.alloc (.cells #[.int .i64 f.page, .int .i64 f.width] 23)).alloc (.cells (mcells Mt.zero) 31)) w1) : Dc w w1 f Mt.zero := by
  have a := FM.new w f Mt.zero
  exact ⟨a.f.chg h (fun h => h), a.m.chg h (fun h => h), (((Chg.refl (fun _ => False) w).alloc _).alloc _).trans h⟩
theorem Dc.quiet {w w1 w2 : World} {f : Mt.F} {m : Mt.M} (h : Dc w w1 f m) (hc : Chg (fun _ => False) w1 w2) : Dc w w2 f m :=
  ⟨h.f.chg hc (fun h => h), h.m.chg hc (fun h => h), h.chg.trans hc⟩
theorem Dc.set_ {w w1 : World} {f : Mt.F} {m : Mt.M} (h : Dc w w1 f m) (m' : Mt.M) : Dc w (w1.setRow (w.heap.size + 1) (mcells m')) f m' :=
  ⟨h.f.setRow_far (by omega) _, h.m.setRow _, h.chg.new (Chg.setRow (g := w.heap.size + 1) (Chg.refl (fun k => k = w.heap.size + 1) w1) (.inl rfl) _) (fun k e => by omega)⟩
theorem Dc.f0 {w w1 : World} {f : Mt.F} {m : Mt.M} (h : Dc w w1 f m) : w1.cell? ⟨w.heap.size, 0, none⟩ = some (.int .i64 f.page) := by rw [h.f.cell]; rfl
theorem Dc.f1 {w w1 : World} {f : Mt.F} {m : Mt.M} (h : Dc w w1 f m) : w1.cell? ⟨w.heap.size, 1, none⟩ = some (.int .i64 f.width) := by rw [h.f.cell]; rfl
theorem Dc.st0 {w w1 : World} {f : Mt.F} (h : Dc w w1 f Mt.zero) : (stAgg 31 (.pointer (some ⟨w.heap.size + 1, 0, none⟩)) (.agg #[.int .u64 0, .int .u32 0, .int .u8 0, .int .u8 0, .int .u8 0, .int .u8 0, .int .u8 0, .int .u8 0, .int .u8 0, .int .u8 0, .int .u8 0, .int .u8 0, .int .u8 0, .int .u8 0, .int .u8 0, .int .u8 0, .int .u8 0, .int .u8 0, .int .u8 0, .int .u8 0, .int .u8 0, .int .u8 0, .int .u8 0, .int .u8 0, .int .u8 0, .int .u8 0, .int .u8 0, .int .u8 0, .int .u8 0, .int .u8 0, .int .u8 0, .int .u8 0, .int .u8 0, .int .u8 0, .int .u64 0, .int .u64 0, .int .u32 0, .int .u32 0])).run Tryd.prog w1 = .ok () (w1.setRow (w.heap.size + 1) (mcells Mt.zero)) := stM_of h.m (mcells_size _ rfl) Mt.zero rfl
theorem ret_dc {m m' : Mt.M} {k k' e e' : Int} (h1 : m = m') (h2 : k = k') (h3 : e = e') : Ending.returned (.tuple #[.agg (mcells m), .int .u8 k, .int .i64 e]) = .returned (.tuple #[.agg (mcells m'), .int .u8 k', .int .i64 e']) := by rw [h1, h2, h3]
theorem dc_no {f : Mt.F} {s : List UInt8} (h : ¬ Mt.fit f s = true) : dcM f s = Mt.zero ∧ dcK f s = 0 ∧ dcE f s = 2 := by
  unfold dcM dcK dcE; rw [if_neg h, if_neg h, if_neg h]; exact ⟨rfl, rfl, rfl⟩
theorem dc_yes {f : Mt.F} {s : List UInt8} (h : Mt.fit f s = true) : dcM f s = Mt.told f (Mt.sect f s) ∧ dcK f s = Mt.kind f (Mt.sect f s) ∧ dcE f s = 0 := by
  unfold dcM dcK dcE; rw [if_pos h, if_pos h, if_pos h]; exact ⟨rfl, rfl, rfl⟩

set_option maxHeartbeats 4000000 in
set_option maxRecDepth 100000 in
theorem decode_no (f : Mt.F) (s : List UInt8) (w : World) (h : ¬ Mt.fit f s = true) :
    Calls Tryd.prog 18 #[FV f, S s] w fun e w' => e = .returned (.tuple #[.agg (mcells (dcM f s)), .int .u8 (dcK f s), .int .i64 (dcE f s)]) ∧ Chg (fun _ => False) w w' := by
  have HD := Lib.hid (dc_no h)
  cases hm : Mt.mayF f
  · have Hm := Lib.hid hm
    clear h hm
    go_enter Tryd.func18, Tryd.ntmps18
    go_wp2_with fail
    refine (right_calls f.page f.width _).mono ?_
    rintro e w1 ⟨rfl, hc⟩
    rw [Hm.out]
    have D := Dc.new hc
    clear hc
    have st := D.st0
    go_wp2_with fail
    have D2 := D.set_ Mt.zero
    refine bodyPost_ret (v := .tuple #[.agg (mcells Mt.zero), .int .u8 0, .int .i64 2]) (results_row_tmp_tmp rfl _ _ (w.heap.size + 1) _ _ _ _ _ rfl rfl rfl D2.m Tryd.underlying31 rfl (by rw [mcells_size _ rfl]; exact size_meta)) rfl ⟨?_, D2.chg⟩
    exact ret_dc HD.out.1.symm (by rw [HD.out.2.1]; rfl) HD.out.2.2.symm
  · have hn : ((s.length : Int) == f.page) = false := by
      rw [beq_eq_false_iff_ne]; intro e; apply h; unfold Mt.fit; rw [hm]; simpa using e
    have hn2 : ((s.length : Int) != f.page) = true := by rw [bne, hn]; rfl
    have Hm := Lib.hid hm
    clear h hm
    go_enter Tryd.func18, Tryd.ntmps18
    go_wp2_with fail
    refine (right_calls f.page f.width _).mono ?_
    rintro e w1 ⟨rfl, hc⟩
    rw [Hm.out]
    have D := Dc.new hc
    clear hc
    have st := D.st0
    have f0 := D.f0
    go_wp2_with fail
    have D2 := D.set_ Mt.zero
    refine bodyPost_ret (v := .tuple #[.agg (mcells Mt.zero), .int .u8 0, .int .i64 2]) (results_row_tmp_tmp rfl _ _ (w.heap.size + 1) _ _ _ _ _ rfl rfl rfl D2.m Tryd.underlying31 rfl (by rw [mcells_size _ rfl]; exact size_meta)) rfl ⟨?_, D2.chg⟩
    exact ret_dc HD.out.1.symm (by rw [HD.out.2.1]; rfl) HD.out.2.2.symm
theorem Dc.st {w w1 : World} {f : Mt.F} {m : Mt.M} (h : Dc w w1 f m) (hm : m.sum.length = 32) (m' : Mt.M) (hm' : m'.sum.length = 32) : (stAgg 31 (.pointer (some ⟨w.heap.size + 1, 0, none⟩)) (.agg (mcells m'))).run Tryd.prog w1 = .ok () (w1.setRow (w.heap.size + 1) (mcells m')) := stM_of h.m (mcells_size _ hm) m' hm'
/-- the frame and the record that were read are laid into blocks of their own -/
theorem Dc.pair {w w3 : World} {f : Mt.F} (h : Dc w w3 f Mt.zero) (F : Mt.F) (M : Mt.M) (hM : M.sum.length = 32) : ∃ wy wz,
    (stAgg 23 (.pointer (some ⟨w3.heap.size, 0, none⟩)) (FV F)).run Tryd.prog ((w3.alloc (.cells #[.int .i64 0, .int .i64 0] 23)).alloc (.cells #[.int .u64 0, .int .u32 0, .int .u8 0, .int .u8 0, .int .u8 0, .int .u8 0, .int .u8 0, .int .u8 0, .int .u8 0, .int .u8 0, .int .u8 0, .int .u8 0, .int .u8 0, .int .u8 0, .int .u8 0, .int .u8 0, .int .u8 0, .int .u8 0, .int .u8 0, .int .u8 0, .int .u8 0, .int .u8 0, .int .u8 0, .int .u8 0, .int .u8 0, .int .u8 0, .int .u8 0, .int .u8 0, .int .u8 0, .int .u8 0, .int .u8 0, .int .u8 0, .int .u8 0, .int .u8 0, .int .u64 0, .int .u64 0, .int .u32 0, .int .u32 0] 31)) = .ok () wy ∧
    (stAgg 31 (.pointer (some ⟨w3.heap.size + 1, 0, none⟩)) (.agg (mcells M))).run Tryd.prog wy = .ok () wz ∧
    Dc w wz f Mt.zero ∧ Blk wz w3.heap.size 23 #[.int .i64 F.page, .int .i64 F.width] ∧ Blk wz (w3.heap.size + 1) 31 (mcells M) := by
  have b1 : Blk ((w3.alloc (.cells #[.int .i64 0, .int .i64 0] 23)).alloc (.cells (mcells Mt.zero) 31)) w3.heap.size 23 #[.int .i64 0, .int .i64 0] := (Blk.new w3 _ _).alloc _
  have b2 : Blk ((w3.alloc (.cells #[.int .i64 0, .int .i64 0] 23)).alloc (.cells (mcells Mt.zero) 31)) (w3.heap.size + 1) 31 (mcells Mt.zero) := by
    have := Blk.new (w3.alloc (.cells #[.int .i64 0, .int .i64 0] 23)) 31 (mcells Mt.zero)
    rw [show (w3.alloc (.cells #[.int .i64 0, .int .i64 0] 23)).heap.size = w3.heap.size + 1 by simp] at this
    exact this
  have hl := h.m.lt
  refine ⟨_, _, stF_of b1 rfl F, stM_of (b2.setRow_far (by omega) _) (mcells_size _ rfl) M hM, ?_, (b1.setRow _).setRow_far (by omega) _, (b2.setRow_far (by omega) _).setRow _⟩
  refine ⟨(((h.f.alloc _).alloc _).setRow_far (by omega) _).setRow_far (by omega) _, (((h.m.alloc _).alloc _).setRow_far (by omega) _).setRow_far (by omega) _, ?_⟩
  have c := (h.chg.alloc (.cells #[.int .i64 0, .int .i64 0] 23)).alloc (.cells (mcells Mt.zero) 31)
  have hc := h.chg.size
  have c1 := c.new (Chg.setRow (g := w3.heap.size) (Chg.refl (fun k => k = w3.heap.size) _) (.inl rfl) #[.int .i64 F.page, .int .i64 F.width]) (fun k e => by omega)
  exact c1.new (Chg.setRow (g := w3.heap.size + 1) (Chg.refl (fun k => k = w3.heap.size + 1) _) (.inl rfl) (mcells M)) (fun k e => by omega)

theorem kind_0 {f : Mt.F} {t : List UInt8} (h : decide (t = Mt.zs t.length) = true) : Mt.kind f t = 0 ∧ Mt.told f t = Mt.zero := by
  have : Mt.kind f t = 0 := by unfold Mt.kind; rw [if_pos (by simpa using h)]
  exact ⟨this, by unfold Mt.told; rw [if_neg (by omega)]⟩
theorem kind_3 {f : Mt.F} {t : List UInt8} (h : decide (t = Mt.zs t.length) = false) (h2 : Mt.good (t.take 80) = false ∨ decide (t.drop 80 = Mt.zs (t.drop 80).length) = false) : Mt.kind f t = 3 ∧ Mt.told f t = Mt.zero := by
  have : Mt.kind f t = 3 := by
    unfold Mt.kind; rw [if_neg (by simpa using h), if_pos ?_]
    rintro ⟨a, b⟩
    rcases h2 with h2 | h2
    · rw [a] at h2; cases h2
    · rw [List.length_drop, ← b] at h2; simp at h2
  exact ⟨this, by unfold Mt.told; rw [if_neg (by omega)]⟩
theorem kind_2 {f : Mt.F} {t : List UInt8} (h : decide (t = Mt.zs t.length) = false) (h1 : Mt.good (t.take 80) = true) (h2 : decide (t.drop 80 = Mt.zs (t.drop 80).length) = true) (h3 : Mt.fF (t.take 80) ≠ f) : Mt.kind f t = 2 ∧ Mt.told f t = Mt.zero := by
  have : Mt.kind f t = 2 := by
    unfold Mt.kind; rw [if_neg (by simpa using h), if_neg ?_, if_pos h3]
    rw [List.length_drop] at h2
    simp only [decide_eq_true_iff] at h2
    exact fun n => n ⟨h1, h2⟩
  exact ⟨this, by unfold Mt.told; rw [if_neg (by omega)]⟩
theorem kind_1 {f : Mt.F} {t : List UInt8} (h : decide (t = Mt.zs t.length) = false) (h1 : Mt.good (t.take 80) = true) (h2 : decide (t.drop 80 = Mt.zs (t.drop 80).length) = true) (h3 : Mt.fF (t.take 80) = f) : Mt.kind f t = 1 ∧ Mt.told f t = Mt.fM (t.take 80) := by
  have : Mt.kind f t = 1 := by
    unfold Mt.kind; rw [if_neg (by simpa using h), if_neg ?_, if_neg (by simpa using h3)]
    rw [List.length_drop] at h2
    simp only [decide_eq_true_iff] at h2
    exact fun n => n ⟨h1, h2⟩
  exact ⟨this, by unfold Mt.told; rw [if_pos this]⟩
theorem chg_drewN {w w1 : World} (h : ∃ n, w1 = w.drewN n) : Chg (fun _ => False) w w1 := by obtain ⟨n, rfl⟩ := h; exact (Chg.refl _ w).drewN n

set_option maxHeartbeats 8000000 in
set_option maxRecDepth 100000 in
theorem decode_yes (f : Mt.F) (s : List UInt8) (w : World) (h : Mt.fit f s = true) :
    Calls Tryd.prog 18 #[FV f, S s] w fun e w' => e = .returned (.tuple #[.agg (mcells (dcM f s)), .int .u8 (dcK f s), .int .i64 (dcE f s)]) ∧ Chg (fun _ => False) w w' := by
  obtain ⟨hd1, hd2, hd3⟩ := dc_yes h
  obtain ⟨q, hq1, hq2, hq3, hq4, hq5, hq6⟩ := fit_sect h
  have hm : Mt.mayF f = true := by unfold Mt.fit at h; simp only [Bool.and_eq_true] at h; exact h.1
  rw [hq5] at hd1 hd2 hq6
  have HD1 := Lib.hid hd1
  have HD2 := Lib.hid hd2
  have HD3 := Lib.hid hd3
  have Hm := Lib.hid hm
  have hn : ((s.length : Int) == f.page) = true := by rw [beq_iff_eq]; omega
  have hn2 : ((s.length : Int) != f.page) = false := by rw [bne, hn]; rfl
  have Hq1 := Lib.hid hq1
  have hsl := run_slice_to (P := Tryd.prog) 9 Tryd.underlying9 s q q rfl (by omega)
  obtain ⟨t, ht⟩ : ∃ t, t = s.take q := ⟨_, rfl⟩
  rw [← ht] at HD1 HD2 hq6 hsl
  have ht1 : t.length ≤ 140737488355328 := by omega
  have hsl2 := run_slice_to (P := Tryd.prog) 9 Tryd.underlying9 t 80 80 rfl (by omega)
  have hsl3 := run_slice_from (P := Tryd.prog) 9 Tryd.underlying9 t 80 80 rfl (by omega)
  have hz1 : (t.take 80).length = 80 := by rw [List.length_take]; omega
  have hz2 : (t.drop 80).length ≤ 140737488355328 := by rw [List.length_drop]; omega
  have hms := (Mt.fM_ok (s := t.take 80) (by omega)).sum
  have HT := Lib.hid ht
  have Hz1 := Lib.hid hz1
  have Hz2 := Lib.hid hz2
  have Hms := Lib.hid hms
  have Hq6 := Lib.hid hq6
  have Hq4 := Lib.hid hq4
  clear h hd1 hd2 hd3 hm hq1 hq4 hq5 hq6 ht hz1 hz2 hms
  go_enter Tryd.func18, Tryd.ntmps18
  go_wp2_with fail
  refine (right_calls f.page f.width _).mono ?_
  rintro e w1 ⟨rfl, hc⟩
  rw [Hm.out]
  have D := Dc.new hc
  clear hc
  have f0 := D.f0
  have f1 := D.f1
  go_wp2_with fail
  refine (sector_calls f.page f.width q _ Hq1.out hq3).mono ?_
  rintro e w2 ⟨rfl, hc⟩
  have D2 := D.quiet hc
  clear hc D f0 f1
  go_wp2_with fail
  refine (blank_calls t _ ht1).mono ?_
  rintro e w3 ⟨rfl, hc⟩
  have D3 := D2.quiet (chg_drewN hc)
  clear hc D2
  cases hb : decide (t = Mt.zs t.length)
  · have Hb := Lib.hid hb
    clear hb
    go_wp2_with fail
    refine (parse_calls (t.take 80) _ Hz1.out).mono ?_
    rintro e w4 ⟨rfl, hc⟩
    have D4 := D3.quiet hc
    clear hc D3
    obtain ⟨wy, wz, st1, st2, D5, kF, kM⟩ := D4.pair (Mt.fF (t.take 80)) (Mt.fM (t.take 80)) Hms.out
    clear D4
    cases hg : Mt.good (t.take 80)
    · have Hk := Lib.hid (kind_3 (f := f) Hb.out (.inl hg))
      clear hg
      have st := D5.st0
      go_wp2_with fail
      have D6 := D5.set_ Mt.zero
      refine bodyPost_ret (v := .tuple #[.agg (mcells Mt.zero), .int .u8 3, .int .i64 0]) (results_row_tmp_tmp rfl _ _ (w.heap.size + 1) _ _ _ _ _ rfl rfl rfl D6.m Tryd.underlying31 rfl (by rw [mcells_size _ rfl]; exact size_meta)) rfl ⟨?_, D6.chg⟩
      exact ret_dc (by rw [HD1.out, Hk.out.2]) (by rw [HD2.out, Hk.out.1]; rfl) HD3.out.symm
    · have Hg := Lib.hid hg
      clear hg
      go_wp2_with fail
      refine (blank_calls (t.drop 80) _ Hz2.out).mono ?_
      rintro e w6 ⟨rfl, hc⟩
      have D6 := D5.quiet (chg_drewN hc)
      have kF := kF.chg (chg_drewN hc) (fun h => h)
      have kM := kM.chg (chg_drewN hc) (fun h => h)
      clear hc D5
      cases hb2 : decide (t.drop 80 = Mt.zs (t.drop 80).length)
      · have Hk := Lib.hid (kind_3 (f := f) Hb.out (.inr hb2))
        clear hb2
        have st := D6.st0
        go_wp2_with fail
        have D6 := D6.set_ Mt.zero
        refine bodyPost_ret (v := .tuple #[.agg (mcells Mt.zero), .int .u8 3, .int .i64 0]) (results_row_tmp_tmp rfl _ _ (w.heap.size + 1) _ _ _ _ _ rfl rfl rfl D6.m Tryd.underlying31 rfl (by rw [mcells_size _ rfl]; exact size_meta)) rfl ⟨?_, D6.chg⟩
        exact ret_dc (by rw [HD1.out, Hk.out.2]) (by rw [HD2.out, Hk.out.1]; rfl) HD3.out.symm
      · have g0 : w6.cell? ⟨w4.heap.size, 0, none⟩ = some (.int .i64 (Mt.fF (t.take 80)).page) := by rw [kF.cell]; rfl
        have g1 : w6.cell? ⟨w4.heap.size, 1, none⟩ = some (.int .i64 (Mt.fF (t.take 80)).width) := by rw [kF.cell]; rfl
        have f0 := D6.f0
        have f1 := D6.f1
        have hne := fun w => neq_frame (Mt.fF (t.take 80)) f w
        have hgf := guard_frame
        by_cases hF : Mt.fF (t.take 80) = f
        · have Hk := Lib.hid (kind_1 Hb.out Hg.out hb2 hF)
          rw [decide_eq_true hF] at hne
          clear hb2 hF
          have lm := ldM_of kM Hms.out
          have st := D6.st rfl (Mt.fM (t.take 80)) Hms.out
          go_wp2_with fail
          have D6 := D6.set_ (Mt.fM (t.take 80))
          refine bodyPost_ret (v := .tuple #[.agg (mcells (Mt.fM (t.take 80))), .int .u8 1, .int .i64 0]) (results_row_tmp_tmp rfl _ _ (w.heap.size + 1) _ _ _ _ _ rfl rfl rfl D6.m Tryd.underlying31 rfl (by rw [mcells_size _ Hms.out]; exact size_meta)) rfl ⟨?_, D6.chg⟩
          exact ret_dc (by rw [HD1.out, Hk.out.2]) (by rw [HD2.out, Hk.out.1]; rfl) HD3.out.symm
        · have Hk := Lib.hid (kind_2 Hb.out Hg.out hb2 hF)
          rw [decide_eq_false hF] at hne
          clear hb2 hF
          have st := D6.st0
          go_wp2_with fail
          have D6 := D6.set_ Mt.zero
          refine bodyPost_ret (v := .tuple #[.agg (mcells Mt.zero), .int .u8 2, .int .i64 0]) (results_row_tmp_tmp rfl _ _ (w.heap.size + 1) _ _ _ _ _ rfl rfl rfl D6.m Tryd.underlying31 rfl (by rw [mcells_size _ rfl]; exact size_meta)) rfl ⟨?_, D6.chg⟩
          exact ret_dc (by rw [HD1.out, Hk.out.2]) (by rw [HD2.out, Hk.out.1]; rfl) HD3.out.symm
  · have Hk := Lib.hid (kind_0 (f := f) hb)
    clear hb
    have st := D3.st0
    go_wp2_with fail
    have D6 := D3.set_ Mt.zero
    refine bodyPost_ret (v := .tuple #[.agg (mcells Mt.zero), .int .u8 0, .int .i64 0]) (results_row_tmp_tmp rfl _ _ (w.heap.size + 1) _ _ _ _ _ rfl rfl rfl D6.m Tryd.underlying31 rfl (by rw [mcells_size _ rfl]; exact size_meta)) rfl ⟨?_, D6.chg⟩
    exact ret_dc (by rw [HD1.out, Hk.out.2]) (by rw [HD2.out, Hk.out.1]; rfl) HD3.out.symm
theorem decode_calls (f : Mt.F) (s : List UInt8) (w : World) :
    Calls Tryd.prog 18 #[FV f, S s] w fun e w' => e = .returned (.tuple #[.agg (mcells (dcM f s)), .int .u8 (dcK f s), .int .i64 (dcE f s)]) ∧ Chg (fun _ => False) w w' := by
  by_cases h : Mt.fit f s = true
  · exact decode_yes f s w h
  · exact decode_no f s w h
end Go.Proofs.YtlhdbkbgedlmnaaDoor
